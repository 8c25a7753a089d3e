/- After any sequence of edits the index is that of the edited text: for every text and list of edits the law LineindexUpdate returns true, and its arguments read as before. No condition. -/
import Derived.Test.YtbdfeckgffmgpaaRows
import Derived.Test.YtbdfeckgffmgpaaQOpen
import Derived.Test.YtbdfeckgffmgpaaQSame
import Derived.Test.YtbdfeckgffmgpaaQF9
import Derived.WalkKit
import Derived.ProofKit
import Derived.OpenShut
import Derived.ShutString
import Derived.ChangeOld
import Derived.Below
import Derived.SizedLaws
namespace Go.Proofs.Ytbdfeckgffmgpaa.Q
set_option linter.unusedVariables false
open Go.RowKit Go.Proofs.YtbdfeckgffmgpaaW.PrintWords Go.Proofs.YtbdfeckgffmgpaaW.PrintLast Go.Proofs.YtbdfeckgffmgpaaW.PrintMore
theorem rdE_get {l : List S47} {i : Nat} {x : S47} (h : l[i]? = some x) : rd_T47 l (i : Int) = x := by
  unfold rd_T47
  rw [Int.toNat_natCast, List.getD_eq_getElem?_getD, h]
  rfl
theorem update_l0 (l : List S47) (hl : l.length ≤ 1000) (hok : ∀ x ∈ l, x.f2.size ≤ 140737488351232) : ∀ (m i : Nat) (s : ByteArray), l.length - i ≤ m → i ≤ l.length → s.size ≤ 300 → Ev (fun k => emendatelaw04_LineindexUpdate.l0 k s l i s (I (st (L s)))) true := by
  have hend : ∀ (i : Nat) (s : ByteArray), i = l.length → s.size ≤ 300 → Ev (fun k => emendatelaw04_LineindexUpdate.l0 k s l i s (I (st (L s)))) true := by
    intro i s he hs
    refine Ev.step (f := fun k => (emendatelaw04_awake.f k).bind fun t290 => (if t290 = true then ((emendatelaw04_same.f k s (I (st (L s))) s).bind fun t291 => (some t291)) else (some false))) (fun k => ?_) (Ev.bind awake_ev (Ev.congr (fun k => if_pos rfl) (Ev.bind (same_ev s (by omega)) (Ev.now _))))
    simp only [emendatelaw04_LineindexUpdate.l0]
    rw [if_neg (by omega)]
  intro m
  induction m with
  | zero => intro i s h1 h2 h3; exact hend i s (by omega) h3
  | succ m ih =>
    intro i s h1 h2 h3
    by_cases he : i = l.length
    · exact hend i s he h3
    · have hlt : i < l.length := by omega
      have g : l[i]? = some l[i] := List.getElem?_eq_getElem hlt
      have hx := hok l[i] (List.getElem_mem hlt)
      have hil : (i : Int) < (l.length : Int) := Int.ofNat_lt.2 hlt
      have hnx : ∀ s' : ByteArray, s'.size ≤ 300 → Ev (fun k => emendatelaw04_LineindexUpdate.l0 k s' l ((i + 1 : Nat) : Int) s' (I (st (L s')))) true := fun s' hs' => ih (i + 1) s' (by omega) (by omega) hs'
      have hw : wrap64 ((i : Int) + 1) = ((i + 1 : Nat) : Int) := by rw [wrap_id (by omega) (by omega)]; norm_cast
      generalize l[i] = x at g hx
      have hwz : wrap64 ((s.size : Int) + (x.f2.size : Int)) = (s.size : Int) + x.f2.size := wrap_id (by omega) (by omega)
      by_cases hbig : (s.size : Int) + x.f2.size > 300
      · refine Ev.step (f := fun k => (emendatelaw04_awake.f k).bind fun t => some t) (fun k => ?_) (Ev.bind awake_ev (Ev.now _))
        simp only [emendatelaw04_LineindexUpdate.l0]
        rw [if_pos hil, if_pos (Int.natCast_nonneg i), rdE_get g, hwz, if_pos hbig]
      · have hup := Update_ev s (by omega) x.f0 x.f1 x.f2 (by omega)
        have hru := rUpdate_f s (by omega) x.f0 x.f1 x.f2 (by omega)
        refine Ev.step (f := fun k => (lineindex_Index_Update.f k s (I (st (L s))) x.f0 x.f1 x.f2).bind fun bt295 => ((emendateref04_Update.f s x.f0 x.f1 x.f2).bind fun bt302 => (if bt295.2.2 = bt302.2 then (if bt295.2.2 = 0 then ((emendatelaw04_same.f k bt295.1 bt295.2.1 bt302.1).bind fun t304 => (if t304 = true then ((lineindex_Index_Lines.f s (I (st (L s)))).bind fun t305 => ((emendateref04_Lines.f k s).bind fun t306 => (if t305 = (t306.length : Int) then (emendatelaw04_LineindexUpdate.l0 k bt302.1 l ((i + 1 : Nat) : Int) bt295.1 bt295.2.1) else (some false)))) else (some false))) else (emendatelaw04_LineindexUpdate.l0 k s l ((i + 1 : Nat) : Int) s (I (st (L s))))) else (some false)))) (fun k => ?_) (Ev.bind hup ?_)
        · simp only [emendatelaw04_LineindexUpdate.l0]
          rw [if_pos hil, if_pos (Int.natCast_nonneg i), rdE_get g, hwz, if_neg hbig, hw]
        · rw [hru]
          by_cases hf : fits s x.f0 x.f1
          · rw [if_pos hf, if_pos hf]
            have hsz := edit_size (ins := x.f2) hf
            have hd := hf.2.1
            refine Ev.congr (f := fun k => (emendatelaw04_same.f k (edit s x.f0 x.f1 x.f2) (I (st (L (edit s x.f0 x.f1 x.f2)))) (edit s x.f0 x.f1 x.f2)).bind fun t304 => (if t304 = true then ((emendateref04_Lines.f k s).bind fun t306 => (if (((st (L s)).length + 1 : Nat) : Int) = (t306.length : Int) then (emendatelaw04_LineindexUpdate.l0 k (edit s x.f0 x.f1 x.f2) l ((i + 1 : Nat) : Int) (edit s x.f0 x.f1 x.f2) (I (st (L (edit s x.f0 x.f1 x.f2))))) else (some false))) else (some false))) (fun k => ?_) (Ev.bind (same_ev (edit s x.f0 x.f1 x.f2) (by omega)) ?_)
            · simp only [Option.bind_some]
              rw [if_pos trivial, if_pos trivial, Lines_f s (by omega)]
              rfl
            · refine Ev.congr (fun k => if_pos rfl) (Ev.bind (rLines_ev s (by omega)) ?_)
              exact Ev.congr (fun k => if_pos (by rw [LS_length])) (hnx (edit s x.f0 x.f1 x.f2) (by omega))
          · rw [if_neg hf, if_neg hf]
            refine Ev.congr (fun k => ?_) (hnx s h3)
            simp only [Option.bind_some]
            rw [if_pos trivial, if_neg (by omega)]
theorem LineindexUpdate_pure (s : ByteArray) (l : List S47) (_ : s.size ≤ 140737488351232) (hok : ∀ x ∈ l, EditOk x) : ∃ k, emendatelaw04_LineindexUpdate.f k s l = some true := by
  have hj0 : Ev (fun k => emendatelaw04_LineindexUpdate.j0 k s l true) true := by
    refine Ev.step (f := fun k => (emendatelaw04_awake.f k).bind fun t => some t) (fun k => ?_) (Ev.bind awake_ev (Ev.now _))
    simp only [emendatelaw04_LineindexUpdate.j0]
    rw [if_pos trivial]
  refine Ev.rounds (g := fun k => emendatelaw04_LineindexUpdate.f k s l) ?_
  by_cases h1 : (s.size : Int) > 200
  · exact Ev.congr (fun k => if_pos h1) hj0
  · refine Ev.congr (fun k => if_neg h1) ?_
    by_cases h2 : (l.length : Int) > 20
    · rw [decide_eq_true h2]; exact hj0
    · rw [decide_eq_false h2]
      refine Ev.step (f := fun k => (lineindex_New.f k s).bind fun bt285 => (emendatelaw04_LineindexUpdate.l0 k s l 0 bt285.1 bt285.2)) (fun k => ?_) (Ev.bind (New_ev s (by omega)) (update_l0 l (by omega) (fun x hx => (hok x hx).2.2) l.length 0 s (by omega) (by omega) (by omega)))
      simp only [emendatelaw04_LineindexUpdate.j0]
      rw [if_neg (by simp)]
end Go.Proofs.Ytbdfeckgffmgpaa.Q
namespace Go.Proofs.Ytbdfeckgffmgpaa.LineindexUpdateRow
open Go.ChangeShapes Go.WideShapes Go.ChangeAt Go.RowKit Go.Proofs.Ytbdfeckgffmgpaa.Q Go.Proofs.YtbdfeckgffmgpaaW.PrintWords Go.Proofs.YtbdfeckgffmgpaaW.PrintLast Go.Proofs.YtbdfeckgffmgpaaW.PrintMore
open Go.ChangeMaps (open_string shut_string)
set_option linter.unusedVariables false
theorem own : ownKnob Try.prog.godebug = none := by kernel_rfl
theorem laidOut : laidOutB Try.prog = true := by kernel_rfl
set_option maxRecDepth 100000 in
theorem lifted (os : Os) (started : os.Started) (H : Type) (enc : TypeId × Value → H) :
    ReturnsInHanded {} Try.checked os 9 .any (Rows.lineindexUpdateSpec.pre6 enc Try.prog Try.f9 Rows.lineindexUpdateRow.domain false) (Rows.lineindexUpdateSpec.post enc Try.prog Try.f9 false true false false) := by
  refine returnsInHanded_of_change_sized (C := Try.checked) own started (by kernel_rfl) Try.func9
    (ChangeSpec.witness6 (enc := enc) (C := Try.checked) false ⟨#[], #[.string ByteArray.empty, .slice none 0 0], []⟩ 8 (by kernel_rfl) (by kernel_rfl) (by kernel_rfl) (by kernel_rfl)) ?_
  intro W base args ds gs before hval0 hW hcnd hsz0 _
  have hsz : (DataW.weightsEach Try.prog (Try.f9.params.toList ++ Rows.lineindexUpdateSpec.plain.varTypes Try.prog) (ds ++ gs)).all (· ≤ reachBytes) = true := hsz0
  have hval : ∀ (j : Nat) t v, Try.f9.params[j]? = some t → args[j]? = some v → Value.okWide Try.prog W .any base t v := hval0
  have hW' := hW
  obtain ⟨p, q, hA0, hV, rfl, hfz, hnd⟩ := hW
  have hA : DataW.TrodAll enc Try.prog W 0 (fun _ => true) true Try.f9.params.toList args.toList ds p := hA0
  rw [Try.params9] at hA hval hsz
  obtain ⟨v0, vs0, d0, ds0, p0, q0, hargs, rfl, rfl, h0, r0⟩ := trodAll_cons hA
  obtain ⟨v1, vs1, d1, ds1, p1, q1, rfl, rfl, rfl, h1, r1⟩ := trodAll_cons r0
  obtain ⟨rfl, rfl, rfl⟩ := trodAll_nil r1
  obtain rfl : args = #[v0, v1] := by cases args; simp_all
  obtain ⟨rfl, rfl⟩ := trodVars_none hV
  obtain ⟨a0, rfl, rfl, rfl, y0⟩ := open_string Try.underlying9 (hval 0 9 v0 rfl rfl) h0
  have w0 : a0.size ≤ 140737488351232 := by
    have z := sized_string hsz (j := 0) (t := 9) rfl rfl
    rw [Array.length_toList] at z
    exact z
  have k1 := h1
  have lt1 : ∀ x ∈ p1, x.block < W.heap.size := by obtain ⟨m, hm⟩ := k1; exact DataW.trod_lt m _ _ _ hm
  have sz1 := sized_arg hsz (j := 1) (t := 49) rfl rfl
  obtain ⟨A1, c1, l1, rfl, hr1, hc1, w1⟩ := open_edits (hval 1 49 v1 rfl rfl) h1
  clear hA0 hval0 hsz0
  obtain ⟨k, h⟩ := LineindexUpdate_pure a0 l1 w0 (w1 sz1)
  refine (emendatelaw04_LineindexUpdate.calls k a0 _ _ l1 true W hr1 hc1 h).mono fun e W' ⟨he, bel⟩ => ?_
  subst he
  exact ⟨_, rfl, _, _, _, [], _, [], hW', trodAll_mk1 (shut_bool Try.underlying4 _), (trodAll_cons_mk (shut_string Try.underlying9 y0) (trodAll_cons_mk (Below.trod laidOut (by kernel_rfl) (of_decide_eq_true (by kernel_rfl)) k1 bel lt1) trodAll_mk0)), rfl, bel.frame _, fun h => by cases h⟩
theorem over : Rows.lineindexUpdateRow.holds Try.pinned (OpenSpec.ofChange Rows.lineindexUpdateSpec) :=
  OpenClaim.holds_of_wide 9 Try.f9 rfl rfl rfl rfl rfl rfl rfl ⟨rfl, rfl, rfl, rfl, rfl⟩ rfl rfl rfl rfl rfl (by kernel_rfl) Try.func9 (by kernel_rfl)
    (of_decide_eq_true (by kernel_rfl)) (by unfold Func.isWrapper; first | (rw [if_pos (by decide +kernel)]; kernel_rfl) | (rw [if_neg (by decide +kernel)]; exact ⟨rfl, rfl⟩))
    (fun os started H enc _ => lifted os started H enc)
theorem proved : Rows.LineindexUpdateSaid := over
#print axioms proved
end Go.Proofs.Ytbdfeckgffmgpaa.LineindexUpdateRow
namespace Go.Proofs.Ytbdfeckgffmgpaa
/-- The row, under a short name, for the claim. -/
theorem lineindexUpdate_holds : Rows.LineindexUpdateSaid := LineindexUpdateRow.proved
end Go.Proofs.Ytbdfeckgffmgpaa
