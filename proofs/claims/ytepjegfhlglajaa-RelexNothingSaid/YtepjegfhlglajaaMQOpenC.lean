/- A pair of bytes (an array of two) opened. No condition. -/
import Derived.Test.YtepjegfhlglajaaMQOpenB
namespace Go.Proofs.Ytepjegfhlglajaa.Q
set_option linter.unusedVariables false
open Go.WideShapes Go.ChangeShapes Go.RowKit Go.Proofs.YtepjegfhlglajaaW.PrintWords Go.Proofs.YtepjegfhlglajaaW.PrintLast Go.Proofs.YtepjegfhlglajaaW.PrintMore
theorem open_u8pair {H : Type} {enc : TypeId × Value → H} {w : World} {base b0 : Nat} {r : Reach} {spare : Nat → Bool} {held : Bool} {v : Value} {x : DataW H} {ps : List MemPlace} (hv : Value.okWide Try.prog w r b0 37 v) (ht : DataW.Trod enc Try.prog w base spare held 37 v x ps) :
    ∃ (a0 a1 : Int), v = .agg #[.int .u8 a0, .int .u8 a1] ∧ ((∀ n ∈ x.weights Try.prog 37, n ≤ reachBytes) → (Lit.int .u8 a0).wf = true ∧ (Lit.int .u8 a1).wf = true) := by
  obtain ⟨cs, rfl, hsz⟩ : ∃ cs, v = .agg cs ∧ cs.size = Try.prog.cellsOf 37 := by
    simp only [Value.okWide, Try.underlying37] at hv
    obtain ⟨cs, h1, h2, _⟩ := hv
    exact ⟨cs, h1, h2⟩
  obtain ⟨fuel, hf⟩ := ht
  obtain ⟨xs, m, rfl, _, hl, hx, hi⟩ := DataW.trod_array Try.underlying37 hf
  have hc : Try.prog.cellsOf 37 = 2 := by kernel_rfl
  have hce : Try.prog.cellsOf 5 = 1 := by kernel_rfl
  rw [hc] at hsz
  obtain ⟨c0, c1, rfl⟩ : ∃ c0 c1, cs = #[c0, c1] := by
    match cs, hsz with
    | ⟨[c0, c1]⟩, _ => exact ⟨c0, c1, rfl⟩
  match xs, hx with
  | [y0, y1], _ =>
    have h0 := hi 0 (by decide)
    have h1 := hi 1 (by decide)
    rw [hce] at h0 h1
    obtain ⟨n0, e0, _, w0⟩ := DataW.trod_int Try.underlying5 (h0 : DataW.trod enc Try.prog w base spare held m 5 [c0] = some y0)
    obtain ⟨n1, e1, _, w1⟩ := DataW.trod_int Try.underlying5 (h1 : DataW.trod enc Try.prog w base spare held m 5 [c1] = some y1)
    injection e0 with e0
    injection e1 with e1
    subst e0
    subst e1
    exact ⟨n0, n1, rfl, fun _ => ⟨w0, w1⟩⟩
end Go.Proofs.Ytepjegfhlglajaa.Q
