/- Incremental scanning of a text after an edit returns the tokens, the change and the error of the reference. No condition: the law's own guard bounds the text. -/
import Derived.Test.YtepjegfhlglajaaRows
import Derived.Test.YtepjegfhlglajaaKQOpen
import Derived.Test.YtepjegfhlglajaaKQOpenB
import Derived.Test.YtepjegfhlglajaaKQRelexG
import Derived.Test.YtepjegfhlglajaaKQF12
import Derived.Below
import Derived.ChangeOld
import Derived.OpenShut
import Derived.ProofKit
import Derived.ShutString
import Derived.SizedLaws
import Derived.WalkKit
namespace Go.Proofs.Ytepjegfhlglajaa.Q
set_option linter.unusedVariables false
open Go.RowKit Go.Proofs.YtepjegfhlglajaaW.PrintWords Go.Proofs.YtepjegfhlglajaaW.PrintLast Go.Proofs.YtepjegfhlglajaaW.PrintMore
theorem RelexUpdate_pure (c : List Int) (n : List (List Int)) (a : List Int) (s : ByteArray) (x y : Int) (I : ByteArray) (hrows : ∀ s : Int, 0 ≤ s → s < (n.length : Int) → (rd_L3 n s).length ≤ 9223372036854775807) (_ : s.size ≤ 140737488351232 ∧ EditOk ⟨x, y, I⟩) :
    ∃ k, emendatelaw13_RelexUpdate.f k c n a s x y I = some true := by
  refine Ev.rounds (g := fun k => emendatelaw13_RelexUpdate.f k c n a s x y I) ?_
  obtain ⟨b, h1, h2⟩ := may_ev (c := c) (a := a) hrows s x y I
  refine Ev.bind h1 ?_
  cases b with
  | false => exact Ev.congr (fun k => if_neg (by simp)) awake_some
  | true =>
    obtain ⟨hv, hs, hI⟩ := h2 rfl
    have key : ∃ R : List S32 × Int × Int × Int × Int, Ev (fun k => relex_Update.f k c n a (lxs c n a s) x y I) R ∧ Ev (fun k => emendateref13_Update.f k c n a (lxs c n a s) x y I) R ∧ R.1.length ≤ 5000 := by
      by_cases hf : fitsP s.size x y
      · obtain ⟨A, D, rfl, rfl, hAD⟩ := fits_nat hf
        obtain ⟨fr, i, j, p, q, U, u1, u2⟩ := Update_ev hv s I A D (by omega) (by omega) hAD
        have hsz := edt_size s A D I hAD
        exact ⟨_, u1, rUpdate_ev hv s I A D (by omega) (by omega) hAD U u2, Nat.le_trans (mod_lxs (c := c) (n := n) (a := a) (s := edt s A D I) (by omega)).1 (by decide)⟩
      · exact ⟨_, Update_no s I x y (by omega) hf, rUpdate_no s I x y (by omega) hf, by decide⟩
    obtain ⟨R, r1, r2, r3⟩ := key
    refine Ev.congr (fun k => if_pos rfl) (Ev.bind (rLexs_ev hv s (by omega)) (Ev.bind r1 (Ev.bind r2 (behind_awake13 ?_))))
    refine Ev.congr (fun k => ?_) (Ev.bind (Same13_ev (l := R.1) rfl r3) (Ev.now true))
    rw [if_pos rfl, if_pos (by simp)]
end Go.Proofs.Ytepjegfhlglajaa.Q
namespace Go.Proofs.Ytepjegfhlglajaa.RelexUpdateRow
open Go.ChangeShapes Go.WideShapes Go.ChangeAt Go.RowKit Go.Proofs.Ytepjegfhlglajaa.Q Go.Proofs.YtepjegfhlglajaaW.PrintWords Go.Proofs.YtepjegfhlglajaaW.PrintLast Go.Proofs.YtepjegfhlglajaaW.PrintMore
open Go.ChangeMaps (open_string shut_string)
set_option linter.unusedVariables false
theorem own : ownKnob Try.prog.godebug = none := by kernel_rfl
theorem laidOut : laidOutB Try.prog = true := by kernel_rfl
set_option maxRecDepth 100000 in
theorem lifted (os : Os) (started : os.Started) (H : Type) (enc : TypeId × Value → H) :
    ReturnsInHanded {} Try.checked os 12 .any (Rows.relexUpdateSpec.pre6 enc Try.prog Try.f12 Rows.relexUpdateRow.domain false) (Rows.relexUpdateSpec.post enc Try.prog Try.f12 false true false false) := by
  refine returnsInHanded_of_change_sized (C := Try.checked) own started (by kernel_rfl) Try.func12
    (ChangeSpec.witness6 (enc := enc) (C := Try.checked) false ⟨#[], #[.agg #[.slice none 0 0, .slice none 0 0, .slice none 0 0, .string ByteArray.empty, .int .i64 0, .int .i64 0, .string ByteArray.empty]], []⟩ 8 (by kernel_rfl) (by kernel_rfl) (by kernel_rfl) (by kernel_rfl)) ?_
  intro W base args ds gs before hval0 hW hcnd hsz0 _
  have hsz : (DataW.weightsEach Try.prog (Try.f12.params.toList ++ Rows.relexUpdateSpec.plain.varTypes Try.prog) (ds ++ gs)).all (· ≤ reachBytes) = true := hsz0
  have hval : ∀ (j : Nat) t v, Try.f12.params[j]? = some t → args[j]? = some v → Value.okWide Try.prog W .any base t v := hval0
  have hW' := hW
  obtain ⟨p, q, hA0, hV, rfl, hfz, hnd⟩ := hW
  have hA : DataW.TrodAll enc Try.prog W 0 (fun _ => true) true Try.f12.params.toList args.toList ds p := hA0
  rw [Try.params12] at hA hval hsz
  obtain ⟨v0, vs0, d0, ds0, p0, q0, hargs, rfl, rfl, h0, r0⟩ := trodAll_cons hA
  obtain ⟨rfl, rfl, rfl⟩ := trodAll_nil r0
  obtain rfl : args = #[v0] := by cases args; simp_all
  obtain ⟨rfl, rfl⟩ := trodVars_none hV
  have k0 := h0
  have lt0 : ∀ x ∈ p0, x.block < W.heap.size := by obtain ⟨m, hm⟩ := k0; exact DataW.trod_lt m _ _ _ hm
  have sz0 := sized_arg hsz (j := 0) (t := 48) rfl rfl
  obtain ⟨A0_0, c0_0, l0_0, A0_1, c0_1, l0_1, A0_2, c0_2, l0_2, a0_3, a0_4, a0_5, a0_6, rfl, hr0_0, hc0_0, hr0_1, hc0_1, hr0_2, hc0_2, w0⟩ := open_ask (hval 0 48 v0 rfl rfl) h0
  clear hA0 hval0 hsz0
  obtain ⟨k, h⟩ := RelexUpdate_pure l0_0 l0_1 l0_2 a0_3 a0_4 a0_5 a0_6 (rows_bound hr0_1) (w0 sz0)
  refine (emendatelaw13_RelexUpdate.calls k _ _ l0_0 _ _ l0_1 _ _ l0_2 a0_3 a0_4 a0_5 a0_6 true W hr0_0 hc0_0 hr0_1 hc0_1 hr0_2 hc0_2 h).mono fun e W' ⟨he, bel⟩ => ?_
  subst he
  exact ⟨_, rfl, _, _, _, [], _, [], hW', trodAll_mk1 (shut_bool Try.underlying4 _), (trodAll_cons_mk (Below.trod laidOut (by kernel_rfl) (of_decide_eq_true (by kernel_rfl)) k0 bel lt0) trodAll_mk0), rfl, bel.frame _, fun h => by cases h⟩
theorem over : Rows.relexUpdateRow.holds Try.pinned (OpenSpec.ofChange Rows.relexUpdateSpec) :=
  OpenClaim.holds_of_wide 12 Try.f12 rfl rfl rfl rfl rfl rfl rfl ⟨rfl, rfl, rfl, rfl, rfl⟩ rfl rfl rfl rfl rfl (by kernel_rfl) Try.func12 (by kernel_rfl)
    (of_decide_eq_true (by kernel_rfl)) (by unfold Func.isWrapper; first | (rw [if_pos (by decide +kernel)]; kernel_rfl) | (rw [if_neg (by decide +kernel)]; exact ⟨rfl, rfl⟩))
    (fun os started H enc _ => lifted os started H enc)
theorem proved : Rows.RelexUpdateSaid := over
#print axioms proved
end Go.Proofs.Ytepjegfhlglajaa.RelexUpdateRow
namespace Go.Proofs.Ytepjegfhlglajaa
/-- The row, under a short name, for the claim. -/
theorem relexUpdate_holds : Rows.RelexUpdateSaid := RelexUpdateRow.proved
end Go.Proofs.Ytepjegfhlglajaa
