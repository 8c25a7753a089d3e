/- Offset, Line and Position return the results and errors of the reference: for every text, position and number the law LineindexOffsets returns true, and its arguments read as before. No condition. -/
import Derived.Test.YtbdfeckgffmgpaaRows
import Derived.Test.YtbdfeckgffmgpaaQOpen
import Derived.Test.YtbdfeckgffmgpaaQSame
import Derived.Test.YtbdfeckgffmgpaaQF6
import Derived.WalkKit
import Derived.ProofKit
import Derived.OpenShut
import Derived.ShutString
import Derived.ChangeOld
import Derived.Below
import Derived.SizedLaws
namespace Go.Proofs.Ytbdfeckgffmgpaa.Q
set_option linter.unusedVariables false
open Go.RowKit Go.Proofs.YtbdfeckgffmgpaaW.PrintWords Go.Proofs.YtbdfeckgffmgpaaW.PrintLast Go.Proofs.YtbdfeckgffmgpaaW.PrintMore
theorem LineindexOffsets_pure (s : ByteArray) (p0 p1 n : Int) (_ : s.size ≤ 140737488351232) (_ : True) (_ : (Lit.int .i64 n).wf = true) : ∃ k, emendatelaw04_LineindexOffsets.f k s p0 p1 n = some true := by
  refine Ev.rounds (g := fun k => emendatelaw04_LineindexOffsets.f k s p0 p1 n) ?_
  by_cases h : (s.size : Int) > 300
  · exact Ev.congr (fun k => if_pos h) (Ev.bind awake_ev (Ev.now _))
  · refine Ev.congr (fun k => if_neg h) (Ev.bind (New_ev s (by omega)) ?_)
    have ho : ∃ r, Ev (fun k => lineindex_Index_Offset.f k s (I (st (L s))) p0 p1) r ∧ Ev (fun k => emendateref04_Offset.f k s p0 p1) r := by
      by_cases hp : p0 < 0 ∨ (((st (L s)).length + 1 : Nat) : Int) ≤ p0
      · exact ⟨_, Offset_out s (by omega) hp p1, rOffset_out s (by omega) hp p1⟩
      · obtain ⟨q, rfl⟩ := Int.eq_ofNat_of_zero_le (a := p0) (by omega)
        exact ⟨_, Offset_f s (by omega) (n := q) (by omega) p1, rOffset_ev s (by omega) (n := q) (by omega) p1⟩
    have hl : ∃ r, lineindex_Index_Line.f s (I (st (L s))) n = some r ∧ Ev (fun k => emendateref04_Line.f k s n) r := by
      by_cases hp : n < 0 ∨ (((st (L s)).length + 1 : Nat) : Int) ≤ n
      · exact ⟨_, Line_out s (by omega) hp, rLine_out s (by omega) hp⟩
      · obtain ⟨q, rfl⟩ := Int.eq_ofNat_of_zero_le (a := n) (by omega)
        exact ⟨_, Line_f s (by omega) (n := q) (by omega), rLine_ev s (by omega) (n := q) (by omega)⟩
    have hq : ∃ r, lineindex_Index_Position.f s (I (st (L s))) n = some r ∧ Ev (fun k => emendateref04_Position.f k s n) r := by
      by_cases hp : n < 0 ∨ (s.size : Int) < n
      · exact ⟨_, Position_out s _ hp, rPosition_out s hp⟩
      · obtain ⟨q, rfl⟩ := Int.eq_ofNat_of_zero_le (a := n) (by omega)
        exact ⟨_, Position_f s (by omega) (i := q) (by omega), rPosition_ev s (by omega) (i := q) (by omega)⟩
    obtain ⟨r1, o1, o2⟩ := ho
    obtain ⟨r2, l1, l2⟩ := hl
    obtain ⟨r3, q1, q2⟩ := hq
    refine Ev.bind o1 (Ev.bind o2 ?_)
    simp only [l1, q1, Option.bind_some]
    refine Ev.bind l2 (Ev.bind q2 (Ev.bind awake_ev ?_))
    exact Ev.congr (fun k => by simp) (Ev.now true)
end Go.Proofs.Ytbdfeckgffmgpaa.Q
namespace Go.Proofs.Ytbdfeckgffmgpaa.LineindexOffsetsRow
open Go.ChangeShapes Go.WideShapes Go.ChangeAt Go.RowKit Go.Proofs.Ytbdfeckgffmgpaa.Q Go.Proofs.YtbdfeckgffmgpaaW.PrintWords Go.Proofs.YtbdfeckgffmgpaaW.PrintLast Go.Proofs.YtbdfeckgffmgpaaW.PrintMore
open Go.ChangeMaps (open_string shut_string)
set_option linter.unusedVariables false
theorem own : ownKnob Try.prog.godebug = none := by kernel_rfl
theorem laidOut : laidOutB Try.prog = true := by kernel_rfl
set_option maxRecDepth 100000 in
theorem lifted (os : Os) (started : os.Started) (H : Type) (enc : TypeId × Value → H) :
    ReturnsInHanded {} Try.checked os 6 .any (Rows.lineindexOffsetsSpec.pre6 enc Try.prog Try.f6 Rows.lineindexOffsetsRow.domain false) (Rows.lineindexOffsetsSpec.post enc Try.prog Try.f6 false true false false) := by
  refine returnsInHanded_of_change_sized (C := Try.checked) own started (by kernel_rfl) Try.func6
    (ChangeSpec.witness6 (enc := enc) (C := Try.checked) false ⟨#[], #[.string ByteArray.empty, .agg #[.int .i64 0, .int .i64 0], .int .i64 0], []⟩ 8 (by kernel_rfl) (by kernel_rfl) (by kernel_rfl) (by kernel_rfl)) ?_
  intro W base args ds gs before hval0 hW hcnd hsz0 _
  have hsz : (DataW.weightsEach Try.prog (Try.f6.params.toList ++ Rows.lineindexOffsetsSpec.plain.varTypes Try.prog) (ds ++ gs)).all (· ≤ reachBytes) = true := hsz0
  have hval : ∀ (j : Nat) t v, Try.f6.params[j]? = some t → args[j]? = some v → Value.okWide Try.prog W .any base t v := hval0
  have hW' := hW
  obtain ⟨p, q, hA0, hV, rfl, hfz, hnd⟩ := hW
  have hA : DataW.TrodAll enc Try.prog W 0 (fun _ => true) true Try.f6.params.toList args.toList ds p := hA0
  rw [Try.params6] at hA hval hsz
  obtain ⟨v0, vs0, d0, ds0, p0, q0, hargs, rfl, rfl, h0, r0⟩ := trodAll_cons hA
  obtain ⟨v1, vs1, d1, ds1, p1, q1, rfl, rfl, rfl, h1, r1⟩ := trodAll_cons r0
  obtain ⟨v2, vs2, d2, ds2, p2, q2, rfl, rfl, rfl, h2, r2⟩ := trodAll_cons r1
  obtain ⟨rfl, rfl, rfl⟩ := trodAll_nil r2
  obtain rfl : args = #[v0, v1, v2] := by cases args; simp_all
  obtain ⟨rfl, rfl⟩ := trodVars_none hV
  obtain ⟨a0, rfl, rfl, rfl, y0⟩ := open_string Try.underlying9 (hval 0 9 v0 rfl rfl) h0
  have w0 : a0.size ≤ 140737488351232 := by
    have z := sized_string hsz (j := 0) (t := 9) rfl rfl
    rw [Array.length_toList] at z
    exact z
  have k1 := h1
  have lt1 : ∀ x ∈ p1, x.block < W.heap.size := by obtain ⟨m, hm⟩ := k1; exact DataW.trod_lt m _ _ _ hm
  have sz1 := sized_arg hsz (j := 1) (t := 28) rfl rfl
  obtain ⟨a1_0, a1_1, rfl, w1⟩ := open_pos (hval 1 28 v1 rfl rfl) h1
  obtain ⟨a2, rfl, rfl, rfl, w2⟩ := open_int Try.underlying3 (hval 2 3 v2 rfl rfl) h2
  clear hA0 hval0 hsz0
  obtain ⟨k, h⟩ := LineindexOffsets_pure a0 a1_0 a1_1 a2 w0 (w1 sz1) w2
  refine (emendatelaw04_LineindexOffsets.calls k a0 a1_0 a1_1 a2 true W  h).mono fun e W' ⟨he, bel⟩ => ?_
  subst he
  exact ⟨_, rfl, _, _, _, [], _, [], hW', trodAll_mk1 (shut_bool Try.underlying4 _), (trodAll_cons_mk (shut_string Try.underlying9 y0) (trodAll_cons_mk (Below.trod laidOut (by kernel_rfl) (of_decide_eq_true (by kernel_rfl)) k1 bel lt1) (trodAll_cons_mk (shut_int Try.underlying3 w2) trodAll_mk0))), rfl, bel.frame _, fun h => by cases h⟩
theorem over : Rows.lineindexOffsetsRow.holds Try.pinned (OpenSpec.ofChange Rows.lineindexOffsetsSpec) :=
  OpenClaim.holds_of_wide 6 Try.f6 rfl rfl rfl rfl rfl rfl rfl ⟨rfl, rfl, rfl, rfl, rfl⟩ rfl rfl rfl rfl rfl (by kernel_rfl) Try.func6 (by kernel_rfl)
    (of_decide_eq_true (by kernel_rfl)) (by unfold Func.isWrapper; first | (rw [if_pos (by decide +kernel)]; kernel_rfl) | (rw [if_neg (by decide +kernel)]; exact ⟨rfl, rfl⟩))
    (fun os started H enc _ => lifted os started H enc)
theorem proved : Rows.LineindexOffsetsSaid := over
#print axioms proved
end Go.Proofs.Ytbdfeckgffmgpaa.LineindexOffsetsRow
namespace Go.Proofs.Ytbdfeckgffmgpaa
/-- The row, under a short name, for the claim. -/
theorem lineindexOffsets_holds : Rows.LineindexOffsetsSaid := LineindexOffsetsRow.proved
end Go.Proofs.Ytbdfeckgffmgpaa
