/- Inserting line feeds increases the number of lines by as many: for all texts and offsets the law LineindexInsert returns true, and its arguments read as before. No condition. -/
import Derived.Test.YtbdfeckgffmgpaaRows
import Derived.Test.YtbdfeckgffmgpaaQSame
import Derived.Test.YtbdfeckgffmgpaaQF8
import Derived.WalkKit
import Derived.ProofKit
import Derived.OpenShut
import Derived.ShutString
import Derived.ChangeOld
import Derived.Below
import Derived.SizedLaws
namespace Go.Proofs.Ytbdfeckgffmgpaa.Q
set_option linter.unusedVariables false
open Go.RowKit Go.Proofs.YtbdfeckgffmgpaaW.PrintWords Go.Proofs.YtbdfeckgffmgpaaW.PrintLast Go.Proofs.YtbdfeckgffmgpaaW.PrintMore
theorem insert_count (s : ByteArray) (p : Nat) (ins : ByteArray) (h : p ≤ s.size) : (st (L (edit s p 0 ins))).length = (st (L s)).length + (st (L ins)).length := by
  unfold edit st
  rw [L_S, sts_length, sts_length, sts_length, List.count_append, List.count_append]
  have := congrArg (List.count 10) (List.take_append_drop p (L s))
  rw [List.count_append] at this
  simp only [Int.toNat_natCast, Int.toNat_zero, Nat.add_zero]
  omega
theorem LineindexInsert_pure (s ins : ByteArray) (u : Int) (_ : s.size ≤ 140737488351232) (_ : ins.size ≤ 140737488351232) (hu : (Lit.int .u16 u).wf = true) : ∃ k, emendatelaw04_LineindexInsert.f k s ins u = some true := by
  have hj0 : Ev (fun k => emendatelaw04_LineindexInsert.j0 k s ins u true) true := by
    refine Ev.step (f := fun k => (emendatelaw04_awake.f k).bind fun t => some t) (fun k => ?_) (Ev.bind awake_ev (Ev.now _))
    simp only [emendatelaw04_LineindexInsert.j0]
    rw [if_pos trivial]
  refine Ev.rounds (g := fun k => emendatelaw04_LineindexInsert.f k s ins u) ?_
  by_cases h1 : (s.size : Int) > 200
  · exact Ev.congr (fun k => if_pos h1) hj0
  · refine Ev.congr (fun k => if_neg h1) ?_
    by_cases h2 : (ins.size : Int) > 50
    · rw [decide_eq_true h2]; exact hj0
    · rw [decide_eq_false h2]
      have hu0 : 0 ≤ u ∧ u ≤ 65535 := by
        have := hu
        simp only [Lit.wf, Bool.and_eq_true, decide_eq_true_eq] at this
        have g1 : IntKind.u16.min = 0 := by decide
        have g2 : IntKind.u16.max = 65535 := by decide
        rw [g1, g2] at this
        omega
      have hmod : Int.tmod (wrap64 u) (wrap64 ((s.size : Int) + 1)) = u % ((s.size : Int) + 1) := by
        rw [wrap_id (x := u) (by omega) (by omega), wrap_id (by omega) (by omega)]
        exact Int.tmod_eq_emod_of_nonneg (by omega)
      have hq0 : 0 ≤ u % ((s.size : Int) + 1) := Int.emod_nonneg _ (by omega)
      have hq1 : u % ((s.size : Int) + 1) < (s.size : Int) + 1 := Int.emod_lt_of_pos _ (by omega)
      obtain ⟨q, hq⟩ := Int.eq_ofNat_of_zero_le hq0
      rw [hq] at hq0 hq1
      have hfit : fits s q 0 := ⟨by omega, by omega, by omega, by omega⟩
      have hup := Update_ev s (by omega) q 0 ins (by omega)
      rw [if_pos hfit] at hup
      have hsz := edit_size (ins := ins) hfit
      have hcnt := insert_count s q ins (by omega)
      have hli := st_len_le (L ins)
      have hls := st_len_le (L s)
      rw [L_length] at hli hls
      have hloop : ∀ (m i : Nat), ins.size - i ≤ m → i ≤ ins.size → Ev (fun k => emendatelaw04_LineindexInsert.l0 k s ins u (cn (L ins) i) i) true := by
        have hend : ∀ i : Nat, i = ins.size → Ev (fun k => emendatelaw04_LineindexInsert.l0 k s ins u (cn (L ins) i) i) true := by
          intro i he
          have hci : cn (L ins) i = (st (L ins)).length := by rw [he, ← L_length, cn_all]
          rw [hci]
          refine Ev.step (f := fun k => (lineindex_New.f k s).bind fun bt264 => ((lineindex_Index_Update.f k bt264.1 bt264.2 q 0 ins).bind fun bt269 => ((emendatelaw04_awake.f k).bind fun t275 => (if t275 = true then (if bt269.2.2 = 0 then ((lineindex_Index_Lines.f bt269.1 bt269.2.1).bind fun t276 => ((lineindex_Index_Lines.f bt264.1 bt264.2).bind fun t277 => (some (t276 == (wrap64 (t277 + ((st (L ins)).length : Int))))))) else (some false)) else (some false))))) (fun k => ?_) (Ev.bind (New_ev s (by omega)) (Ev.bind hup (Ev.bind awake_ev ?_)))
          · simp only [emendatelaw04_LineindexInsert.l0]
            rw [if_neg (by omega), hmod, hq]
            refine congrArg _ (funext fun bt => ?_)
            rw [if_neg (by rw [wrap_id (by omega) (by omega)]; omega)]
          · refine Ev.congr (fun k => ?_) (Ev.now true)
            rw [if_pos rfl, if_pos rfl, Lines_f s (by omega), Lines_f (edit s q 0 ins) (by omega)]
            simp only [Option.bind_some]
            rw [wrap_id (by omega) (by omega)]
            refine congrArg some (beq_iff_eq.2 ?_)
            omega
        intro m
        induction m with
        | zero => intro i g1 g2; exact hend i (by omega)
        | succ m ih =>
          intro i g1 g2
          by_cases he : i = ins.size
          · exact hend i he
          · have hlt : i < ins.size := by omega
            have hnx := ih (i + 1) (by omega) (by omega)
            have hi0 : (i : Int) < (ins.size : Int) := Int.ofNat_lt.2 hlt
            have h' : i < (L ins).length := by rw [L_length]; exact hlt
            have hcl : cn (L ins) i ≤ 50 := by have := cn_le (L ins) i (Nat.le_of_lt h'); omega
            have hwc : wrap64 ((cn (L ins) i : Int) + 1) = (cn (L ins) i : Int) + 1 := by
              clear hnx ih hend
              exact wrap_id (by omega) (by omega)
            have hw : wrap64 ((i : Int) + 1) = ((i + 1 : Nat) : Int) := by
              clear hwc hnx ih hend
              rw [wrap_id (by omega) (by omega)]; norm_cast
            have hcs := cn_succ h'
            refine Ev.step (fun k => ?_) hnx
            simp only [emendatelaw04_LineindexInsert.l0]
            by_cases hb : bt ins (i : Int) = 10
            · rw [if_pos ((is_lf hlt h').1 hb)] at hcs
              rw [if_pos hi0, if_pos (Int.natCast_nonneg i), if_pos hb, hw, hwc, hcs]
              norm_cast
            · rw [if_neg (fun h0 => hb ((is_lf hlt h').2 h0))] at hcs
              rw [if_pos hi0, if_pos (Int.natCast_nonneg i), if_neg hb, hw, hcs]
              rfl
      refine Ev.step (fun k => ?_) (hloop ins.size 0 (by omega) (by omega))
      simp only [emendatelaw04_LineindexInsert.j0]
      rw [if_neg (by simp), cn_zero]
      rfl
end Go.Proofs.Ytbdfeckgffmgpaa.Q
namespace Go.Proofs.Ytbdfeckgffmgpaa.LineindexInsertRow
open Go.ChangeShapes Go.WideShapes Go.ChangeAt Go.RowKit Go.Proofs.Ytbdfeckgffmgpaa.Q Go.Proofs.YtbdfeckgffmgpaaW.PrintWords Go.Proofs.YtbdfeckgffmgpaaW.PrintLast Go.Proofs.YtbdfeckgffmgpaaW.PrintMore
open Go.ChangeMaps (open_string shut_string)
set_option linter.unusedVariables false
theorem own : ownKnob Try.prog.godebug = none := by kernel_rfl
theorem laidOut : laidOutB Try.prog = true := by kernel_rfl
set_option maxRecDepth 100000 in
theorem lifted (os : Os) (started : os.Started) (H : Type) (enc : TypeId × Value → H) :
    ReturnsInHanded {} Try.checked os 8 .any (Rows.lineindexInsertSpec.pre6 enc Try.prog Try.f8 Rows.lineindexInsertRow.domain false) (Rows.lineindexInsertSpec.post enc Try.prog Try.f8 false true false false) := by
  refine returnsInHanded_of_change_sized (C := Try.checked) own started (by kernel_rfl) Try.func8
    (ChangeSpec.witness6 (enc := enc) (C := Try.checked) false ⟨#[], #[.string ByteArray.empty, .string ByteArray.empty, .int .u16 0], []⟩ 8 (by kernel_rfl) (by kernel_rfl) (by kernel_rfl) (by kernel_rfl)) ?_
  intro W base args ds gs before hval0 hW hcnd hsz0 _
  have hsz : (DataW.weightsEach Try.prog (Try.f8.params.toList ++ Rows.lineindexInsertSpec.plain.varTypes Try.prog) (ds ++ gs)).all (· ≤ reachBytes) = true := hsz0
  have hval : ∀ (j : Nat) t v, Try.f8.params[j]? = some t → args[j]? = some v → Value.okWide Try.prog W .any base t v := hval0
  have hW' := hW
  obtain ⟨p, q, hA0, hV, rfl, hfz, hnd⟩ := hW
  have hA : DataW.TrodAll enc Try.prog W 0 (fun _ => true) true Try.f8.params.toList args.toList ds p := hA0
  rw [Try.params8] at hA hval hsz
  obtain ⟨v0, vs0, d0, ds0, p0, q0, hargs, rfl, rfl, h0, r0⟩ := trodAll_cons hA
  obtain ⟨v1, vs1, d1, ds1, p1, q1, rfl, rfl, rfl, h1, r1⟩ := trodAll_cons r0
  obtain ⟨v2, vs2, d2, ds2, p2, q2, rfl, rfl, rfl, h2, r2⟩ := trodAll_cons r1
  obtain ⟨rfl, rfl, rfl⟩ := trodAll_nil r2
  obtain rfl : args = #[v0, v1, v2] := by cases args; simp_all
  obtain ⟨rfl, rfl⟩ := trodVars_none hV
  obtain ⟨a0, rfl, rfl, rfl, y0⟩ := open_string Try.underlying9 (hval 0 9 v0 rfl rfl) h0
  have w0 : a0.size ≤ 140737488351232 := by
    have z := sized_string hsz (j := 0) (t := 9) rfl rfl
    rw [Array.length_toList] at z
    exact z
  obtain ⟨a1, rfl, rfl, rfl, y1⟩ := open_string Try.underlying9 (hval 1 9 v1 rfl rfl) h1
  have w1 : a1.size ≤ 140737488351232 := by
    have z := sized_string hsz (j := 1) (t := 9) rfl rfl
    rw [Array.length_toList] at z
    exact z
  obtain ⟨a2, rfl, rfl, rfl, w2⟩ := open_int Try.underlying43 (hval 2 43 v2 rfl rfl) h2
  clear hA0 hval0 hsz0
  obtain ⟨k, h⟩ := LineindexInsert_pure a0 a1 a2 w0 w1 w2
  refine (emendatelaw04_LineindexInsert.calls k a0 a1 a2 true W  h).mono fun e W' ⟨he, bel⟩ => ?_
  subst he
  exact ⟨_, rfl, _, _, _, [], _, [], hW', trodAll_mk1 (shut_bool Try.underlying4 _), (trodAll_cons_mk (shut_string Try.underlying9 y0) (trodAll_cons_mk (shut_string Try.underlying9 y1) (trodAll_cons_mk (shut_int Try.underlying43 w2) trodAll_mk0))), rfl, bel.frame _, fun h => by cases h⟩
theorem over : Rows.lineindexInsertRow.holds Try.pinned (OpenSpec.ofChange Rows.lineindexInsertSpec) :=
  OpenClaim.holds_of_wide 8 Try.f8 rfl rfl rfl rfl rfl rfl rfl ⟨rfl, rfl, rfl, rfl, rfl⟩ rfl rfl rfl rfl rfl (by kernel_rfl) Try.func8 (by kernel_rfl)
    (of_decide_eq_true (by kernel_rfl)) (by unfold Func.isWrapper; first | (rw [if_pos (by decide +kernel)]; kernel_rfl) | (rw [if_neg (by decide +kernel)]; exact ⟨rfl, rfl⟩))
    (fun os started H enc _ => lifted os started H enc)
theorem proved : Rows.LineindexInsertSaid := over
#print axioms proved
end Go.Proofs.Ytbdfeckgffmgpaa.LineindexInsertRow
namespace Go.Proofs.Ytbdfeckgffmgpaa
/-- The row, under a short name, for the claim. -/
theorem lineindexInsert_holds : Rows.LineindexInsertSaid := LineindexInsertRow.proved
end Go.Proofs.Ytbdfeckgffmgpaa
