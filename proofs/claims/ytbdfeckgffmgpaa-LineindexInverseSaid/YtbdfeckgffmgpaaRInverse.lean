/- Offset inverts Position for every offset of a text: for every text the law LineindexInverse returns true, and its argument reads as before. No condition. -/
import Derived.Test.YtbdfeckgffmgpaaRows
import Derived.Test.YtbdfeckgffmgpaaQEval
import Derived.Test.YtbdfeckgffmgpaaQF3
import Derived.WalkKit
import Derived.ProofKit
import Derived.OpenShut
import Derived.ShutString
import Derived.ChangeOld
import Derived.Below
import Derived.SizedLaws
namespace Go.Proofs.Ytbdfeckgffmgpaa.Q
set_option linter.unusedVariables false
open Go.RowKit Go.Proofs.YtbdfeckgffmgpaaW.PrintWords Go.Proofs.YtbdfeckgffmgpaaW.PrintLast Go.Proofs.YtbdfeckgffmgpaaW.PrintMore
theorem inverse_l0 (s : ByteArray) (hs : s.size ≤ 1000000) : ∀ (m i : Nat), s.size + 1 - i ≤ m → Ev (fun k => emendatelaw04_LineindexInverse.l0 k s i s (I (st (L s)))) true := by
  have hend : ∀ i : Nat, s.size < i → Ev (fun k => emendatelaw04_LineindexInverse.l0 k s i s (I (st (L s)))) true := by
    intro i h
    refine Ev.step (f := fun k => (emendatelaw04_awake.f k).bind fun t => some t) (fun k => ?_) (Ev.bind awake_ev (Ev.now _))
    simp only [emendatelaw04_LineindexInverse.l0]
    rw [if_neg (by omega)]
  intro m
  induction m with
  | zero => intro i h; exact hend i (by omega)
  | succ m ih =>
    intro i h
    by_cases hi : s.size < i
    · exact hend i hi
    · have hnext := ih (i + 1) (by omega)
      have hw : wrap64 ((i : Int) + 1) = ((i + 1 : Nat) : Int) := by rw [wrap_id (by omega) (by omega)]; norm_cast
      have hil : i ≤ (L s).length := by rw [L_length]; omega
      have ho := Offset_f s (by omega) (cn_le (L s) i hil) (((i - frm (L s) (cn (L s) i) : Nat) : Int))
      have hll := line_length (cn_le (L s) i hil)
      have hf := frm_le hil
      have ht := le_too hil
      rw [if_neg (by omega)] at ho
      refine Ev.step (f := fun k => (lineindex_Index_Offset.f k s (I (st (L s))) (cn (L s) i) (((i - frm (L s) (cn (L s) i) : Nat) : Int))).bind fun bt151 => (if bt151.2 = 0 then (if bt151.1 = (i : Int) then (emendatelaw04_LineindexInverse.l0 k s ((i + 1 : Nat) : Int) s (I (st (L s)))) else (some false)) else (some false))) (fun k => ?_) (Ev.bind ho ?_)
      · simp only [emendatelaw04_LineindexInverse.l0]
        rw [if_pos (by omega), Position_f s (by omega) (by omega), hw]
        rfl
      · exact Ev.congr (fun k => by rw [if_pos rfl, if_pos (by omega)]) hnext
theorem LineindexInverse_pure (s : ByteArray) (_ : s.size ≤ 140737488351232) : ∃ k, emendatelaw04_LineindexInverse.f k s = some true := by
  refine Ev.rounds (g := fun k => emendatelaw04_LineindexInverse.f k s) ?_
  by_cases h : (s.size : Int) > 300
  · exact Ev.congr (fun k => if_pos h) (Ev.bind awake_ev (Ev.now _))
  · exact Ev.congr (fun k => if_neg h) (Ev.bind (New_ev s (by omega)) (inverse_l0 s (by omega) (s.size + 1) 0 (by omega)))
end Go.Proofs.Ytbdfeckgffmgpaa.Q
namespace Go.Proofs.Ytbdfeckgffmgpaa.LineindexInverseRow
open Go.ChangeShapes Go.WideShapes Go.ChangeAt Go.RowKit Go.Proofs.Ytbdfeckgffmgpaa.Q Go.Proofs.YtbdfeckgffmgpaaW.PrintWords Go.Proofs.YtbdfeckgffmgpaaW.PrintLast Go.Proofs.YtbdfeckgffmgpaaW.PrintMore
open Go.ChangeMaps (open_string shut_string)
set_option linter.unusedVariables false
theorem own : ownKnob Try.prog.godebug = none := by kernel_rfl
theorem laidOut : laidOutB Try.prog = true := by kernel_rfl
set_option maxRecDepth 100000 in
theorem lifted (os : Os) (started : os.Started) (H : Type) (enc : TypeId × Value → H) :
    ReturnsInHanded {} Try.checked os 3 .any (Rows.lineindexInverseSpec.pre6 enc Try.prog Try.f3 Rows.lineindexInverseRow.domain false) (Rows.lineindexInverseSpec.post enc Try.prog Try.f3 false true false false) := by
  refine returnsInHanded_of_change_sized (C := Try.checked) own started (by kernel_rfl) Try.func3
    (ChangeSpec.witness6 (enc := enc) (C := Try.checked) false ⟨#[], #[.string ByteArray.empty], []⟩ 8 (by kernel_rfl) (by kernel_rfl) (by kernel_rfl) (by kernel_rfl)) ?_
  intro W base args ds gs before hval0 hW hcnd hsz0 _
  have hsz : (DataW.weightsEach Try.prog (Try.f3.params.toList ++ Rows.lineindexInverseSpec.plain.varTypes Try.prog) (ds ++ gs)).all (· ≤ reachBytes) = true := hsz0
  have hval : ∀ (j : Nat) t v, Try.f3.params[j]? = some t → args[j]? = some v → Value.okWide Try.prog W .any base t v := hval0
  have hW' := hW
  obtain ⟨p, q, hA0, hV, rfl, hfz, hnd⟩ := hW
  have hA : DataW.TrodAll enc Try.prog W 0 (fun _ => true) true Try.f3.params.toList args.toList ds p := hA0
  rw [Try.params3] at hA hval hsz
  obtain ⟨v0, vs0, d0, ds0, p0, q0, hargs, rfl, rfl, h0, r0⟩ := trodAll_cons hA
  obtain ⟨rfl, rfl, rfl⟩ := trodAll_nil r0
  obtain rfl : args = #[v0] := by cases args; simp_all
  obtain ⟨rfl, rfl⟩ := trodVars_none hV
  obtain ⟨a0, rfl, rfl, rfl, y0⟩ := open_string Try.underlying9 (hval 0 9 v0 rfl rfl) h0
  have w0 : a0.size ≤ 140737488351232 := by
    have z := sized_string hsz (j := 0) (t := 9) rfl rfl
    rw [Array.length_toList] at z
    exact z
  clear hA0 hval0 hsz0
  obtain ⟨k, h⟩ := LineindexInverse_pure a0 w0
  refine (emendatelaw04_LineindexInverse.calls k a0 true W  h).mono fun e W' ⟨he, bel⟩ => ?_
  subst he
  exact ⟨_, rfl, _, _, _, [], _, [], hW', trodAll_mk1 (shut_bool Try.underlying4 _), (trodAll_cons_mk (shut_string Try.underlying9 y0) trodAll_mk0), rfl, bel.frame _, fun h => by cases h⟩
theorem over : Rows.lineindexInverseRow.holds Try.pinned (OpenSpec.ofChange Rows.lineindexInverseSpec) :=
  OpenClaim.holds_of_wide 3 Try.f3 rfl rfl rfl rfl rfl rfl rfl ⟨rfl, rfl, rfl, rfl, rfl⟩ rfl rfl rfl rfl rfl (by kernel_rfl) Try.func3 (by kernel_rfl)
    (of_decide_eq_true (by kernel_rfl)) (by unfold Func.isWrapper; first | (rw [if_pos (by decide +kernel)]; kernel_rfl) | (rw [if_neg (by decide +kernel)]; exact ⟨rfl, rfl⟩))
    (fun os started H enc _ => lifted os started H enc)
theorem proved : Rows.LineindexInverseSaid := over
#print axioms proved
end Go.Proofs.Ytbdfeckgffmgpaa.LineindexInverseRow
namespace Go.Proofs.Ytbdfeckgffmgpaa
/-- The row, under a short name, for the claim. -/
theorem lineindexInverse_holds : Rows.LineindexInverseSaid := LineindexInverseRow.proved
end Go.Proofs.Ytbdfeckgffmgpaa
