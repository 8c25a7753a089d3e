/- Lines, Line and Position return what the reference returns: for every text the law LineindexPositions returns true, and its argument reads as before. No condition. -/
import Derived.Test.YtbdfeckgffmgpaaRows
import Derived.Test.YtbdfeckgffmgpaaQSame
import Derived.Test.YtbdfeckgffmgpaaQF5
import Derived.WalkKit
import Derived.ProofKit
import Derived.OpenShut
import Derived.ShutString
import Derived.ChangeOld
import Derived.Below
import Derived.SizedLaws
namespace Go.Proofs.Ytbdfeckgffmgpaa.Q
set_option linter.unusedVariables false
open Go.RowKit Go.Proofs.YtbdfeckgffmgpaaW.PrintWords Go.Proofs.YtbdfeckgffmgpaaW.PrintLast Go.Proofs.YtbdfeckgffmgpaaW.PrintMore
theorem LineindexPositions_pure (s : ByteArray) (_ : s.size ≤ 140737488351232) : ∃ k, emendatelaw04_LineindexPositions.f k s = some true := by
  refine Ev.rounds (g := fun k => emendatelaw04_LineindexPositions.f k s) ?_
  by_cases h : (s.size : Int) > 300
  · exact Ev.congr (fun k => if_pos h) (Ev.bind awake_ev (Ev.now _))
  · refine Ev.congr (fun k => if_neg h) (Ev.bind awake_ev (Ev.congr (fun k => if_pos rfl) ?_))
    exact Ev.bind (New_ev s (by omega)) (Ev.bind (same_ev s (by omega)) (Ev.now _))
end Go.Proofs.Ytbdfeckgffmgpaa.Q
namespace Go.Proofs.Ytbdfeckgffmgpaa.LineindexPositionsRow
open Go.ChangeShapes Go.WideShapes Go.ChangeAt Go.RowKit Go.Proofs.Ytbdfeckgffmgpaa.Q Go.Proofs.YtbdfeckgffmgpaaW.PrintWords Go.Proofs.YtbdfeckgffmgpaaW.PrintLast Go.Proofs.YtbdfeckgffmgpaaW.PrintMore
open Go.ChangeMaps (open_string shut_string)
set_option linter.unusedVariables false
theorem own : ownKnob Try.prog.godebug = none := by kernel_rfl
theorem laidOut : laidOutB Try.prog = true := by kernel_rfl
set_option maxRecDepth 100000 in
theorem lifted (os : Os) (started : os.Started) (H : Type) (enc : TypeId × Value → H) :
    ReturnsInHanded {} Try.checked os 5 .any (Rows.lineindexPositionsSpec.pre6 enc Try.prog Try.f5 Rows.lineindexPositionsRow.domain false) (Rows.lineindexPositionsSpec.post enc Try.prog Try.f5 false true false false) := by
  refine returnsInHanded_of_change_sized (C := Try.checked) own started (by kernel_rfl) Try.func5
    (ChangeSpec.witness6 (enc := enc) (C := Try.checked) false ⟨#[], #[.string ByteArray.empty], []⟩ 8 (by kernel_rfl) (by kernel_rfl) (by kernel_rfl) (by kernel_rfl)) ?_
  intro W base args ds gs before hval0 hW hcnd hsz0 _
  have hsz : (DataW.weightsEach Try.prog (Try.f5.params.toList ++ Rows.lineindexPositionsSpec.plain.varTypes Try.prog) (ds ++ gs)).all (· ≤ reachBytes) = true := hsz0
  have hval : ∀ (j : Nat) t v, Try.f5.params[j]? = some t → args[j]? = some v → Value.okWide Try.prog W .any base t v := hval0
  have hW' := hW
  obtain ⟨p, q, hA0, hV, rfl, hfz, hnd⟩ := hW
  have hA : DataW.TrodAll enc Try.prog W 0 (fun _ => true) true Try.f5.params.toList args.toList ds p := hA0
  rw [Try.params5] at hA hval hsz
  obtain ⟨v0, vs0, d0, ds0, p0, q0, hargs, rfl, rfl, h0, r0⟩ := trodAll_cons hA
  obtain ⟨rfl, rfl, rfl⟩ := trodAll_nil r0
  obtain rfl : args = #[v0] := by cases args; simp_all
  obtain ⟨rfl, rfl⟩ := trodVars_none hV
  obtain ⟨a0, rfl, rfl, rfl, y0⟩ := open_string Try.underlying9 (hval 0 9 v0 rfl rfl) h0
  have w0 : a0.size ≤ 140737488351232 := by
    have z := sized_string hsz (j := 0) (t := 9) rfl rfl
    rw [Array.length_toList] at z
    exact z
  clear hA0 hval0 hsz0
  obtain ⟨k, h⟩ := LineindexPositions_pure a0 w0
  refine (emendatelaw04_LineindexPositions.calls k a0 true W  h).mono fun e W' ⟨he, bel⟩ => ?_
  subst he
  exact ⟨_, rfl, _, _, _, [], _, [], hW', trodAll_mk1 (shut_bool Try.underlying4 _), (trodAll_cons_mk (shut_string Try.underlying9 y0) trodAll_mk0), rfl, bel.frame _, fun h => by cases h⟩
theorem over : Rows.lineindexPositionsRow.holds Try.pinned (OpenSpec.ofChange Rows.lineindexPositionsSpec) :=
  OpenClaim.holds_of_wide 5 Try.f5 rfl rfl rfl rfl rfl rfl rfl ⟨rfl, rfl, rfl, rfl, rfl⟩ rfl rfl rfl rfl rfl (by kernel_rfl) Try.func5 (by kernel_rfl)
    (of_decide_eq_true (by kernel_rfl)) (by unfold Func.isWrapper; first | (rw [if_pos (by decide +kernel)]; kernel_rfl) | (rw [if_neg (by decide +kernel)]; exact ⟨rfl, rfl⟩))
    (fun os started H enc _ => lifted os started H enc)
theorem proved : Rows.LineindexPositionsSaid := over
#print axioms proved
end Go.Proofs.Ytbdfeckgffmgpaa.LineindexPositionsRow
namespace Go.Proofs.Ytbdfeckgffmgpaa
/-- The row, under a short name, for the claim. -/
theorem lineindexPositions_holds : Rows.LineindexPositionsSaid := LineindexPositionsRow.proved
end Go.Proofs.Ytbdfeckgffmgpaa
