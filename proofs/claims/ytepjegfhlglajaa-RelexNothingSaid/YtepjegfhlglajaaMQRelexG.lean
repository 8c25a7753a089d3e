/- The guards of the relex laws. The size of the text is the condition, told in each law. -/
import Derived.Test.YtepjegfhlglajaaMQRelex
import Derived.Test.YtepjegfhlglajaaMQAwake
import Derived.Test.YtepjegfhlglajaaMQF23
import Derived.Test.YtepjegfhlglajaaMQF27
import Derived.OpenShut
namespace Go.Proofs.Ytepjegfhlglajaa.Q
set_option linter.unusedVariables false
open Go.RowKit Go.Proofs.YtepjegfhlglajaaW.PrintWords Go.Proofs.YtepjegfhlglajaaW.PrintLast Go.Proofs.YtepjegfhlglajaaW.PrintMore
section
variable {c : List Int} {n : List (List Int)} {a : List Int}
theorem small_ev (hrows : ∀ s : Int, 0 ≤ s → s < (n.length : Int) → (rd_L3 n s).length ≤ 9223372036854775807) : EvB (fun k => emendateref10_Small.f k c n a 40 20) (VD c n a) := by
  obtain ⟨b, h1, h2⟩ := Valid_ev c n a hrows
  cases b with
  | false => exact ⟨false, Ev.bind h1 (Ev.congr (fun k => if_neg (by simp)) (Ev.now _)), by simp⟩
  | true =>
    have hv := (h2 rfl).1
    have hn : 0 < n.length := hv.2.1
    by_cases h3 : (n.length : Int) ≤ 40
    · refine ⟨decide (((rd_L3 n 0).length : Int) ≤ 20), Ev.bind h1 (Ev.congr (fun k => ?_) (Ev.now _)), fun _ => hv⟩
      rw [if_pos rfl, if_pos h3, if_pos (show (0 : Int) < (n.length : Int) from Int.ofNat_lt.2 hn)]
    · refine ⟨false, Ev.bind h1 (Ev.congr (fun k => ?_) (Ev.now _)), by simp⟩
      rw [if_pos rfl, if_neg h3]
theorem may_ev (hrows : ∀ s : Int, 0 ≤ s → s < (n.length : Int) → (rd_L3 n s).length ≤ 9223372036854775807) (s : ByteArray) (x y : Int) (I : ByteArray) : EvB (fun k => emendatelaw13_may.f k c n a s x y I) (VD c n a ∧ s.size ≤ 100 ∧ I.size ≤ 30) := by
  obtain ⟨b, h1, h2⟩ := small_ev (c := c) (a := a) hrows
  cases b with
  | false => exact ⟨false, Ev.bind h1 (Ev.congr (fun k => if_neg (by simp)) (Ev.now _)), by simp⟩
  | true =>
    have hv := h2 rfl
    by_cases h3 : (s.size : Int) ≤ 100
    · refine ⟨decide ((I.size : Int) ≤ 30), Ev.bind h1 (Ev.congr (fun k => ?_) (Ev.now _)), fun h => ⟨hv, by omega, by have := of_decide_eq_true h; omega⟩⟩
      rw [if_pos rfl, if_pos h3]
    · refine ⟨false, Ev.bind h1 (Ev.congr (fun k => ?_) (Ev.now _)), by simp⟩
      rw [if_pos rfl, if_neg h3]
theorem awake_some : Ev (fun k => (emendatelaw13_awake.f k).bind fun t => some t) true := Ev.bind awake13_ev (Ev.now _)
theorem behind_awake13 {g : Nat → Option Bool} {r : Bool} (h : Ev g r) : Ev (fun k => (emendatelaw13_awake.f k).bind fun t => if t = true then g k else some false) r :=
  Ev.bind awake13_ev (Ev.congr (fun k => if_pos rfl) h)
theorem rLexs_ev (hv : VD c n a) (s : ByteArray) (hs : s.size ≤ 3000) : Ev (fun k => emendateref12_Lex.f k c n a s) (lxs c n a s) := rLex_ev hv s (by omega)
theorem fits_nat {sz : Nat} {x y : Int} (h : fitsP sz x y) : ∃ A D : Nat, x = A ∧ y = D ∧ A + D ≤ sz := by
  obtain ⟨h1, h2, h3, h4⟩ := h
  obtain ⟨A, rfl⟩ := Int.eq_ofNat_of_zero_le h1
  obtain ⟨D, rfl⟩ := Int.eq_ofNat_of_zero_le h2
  exact ⟨A, D, rfl, rfl, by omega⟩
end
end Go.Proofs.Ytepjegfhlglajaa.Q
