/- Positions increase strictly with offsets: for every text the law LineindexOrder returns true, and its argument reads as before. No condition. -/
import Derived.Test.YtbdfeckgffmgpaaRows
import Derived.Test.YtbdfeckgffmgpaaQEval
import Derived.Test.YtbdfeckgffmgpaaQF4
import Derived.WalkKit
import Derived.ProofKit
import Derived.OpenShut
import Derived.ShutString
import Derived.ChangeOld
import Derived.Below
import Derived.SizedLaws
namespace Go.Proofs.Ytbdfeckgffmgpaa.Q
set_option linter.unusedVariables false
open Go.RowKit Go.Proofs.YtbdfeckgffmgpaaW.PrintWords Go.Proofs.YtbdfeckgffmgpaaW.PrintLast Go.Proofs.YtbdfeckgffmgpaaW.PrintMore
theorem order_l0 (s : ByteArray) (hs : s.size ≤ 1000000) : ∀ (m i : Nat), s.size + 1 - i ≤ m → 1 ≤ i → Ev (fun k => emendatelaw04_LineindexOrder.l0 k s i s (I (st (L s)))) true := by
  have hend : ∀ i : Nat, s.size < i → Ev (fun k => emendatelaw04_LineindexOrder.l0 k s i s (I (st (L s)))) true := by
    intro i h
    refine Ev.step (f := fun k => (emendatelaw04_awake.f k).bind fun t => some t) (fun k => ?_) (Ev.bind awake_ev (Ev.now _))
    simp only [emendatelaw04_LineindexOrder.l0]
    rw [if_neg (by omega)]
  intro m
  induction m with
  | zero => intro i h h1; exact hend i (by omega)
  | succ m ih =>
    intro i h h1
    by_cases hi : s.size < i
    · exact hend i hi
    · have hnext := ih (i + 1) (by omega) (by omega)
      have hw : wrap64 ((i : Int) + 1) = ((i + 1 : Nat) : Int) := by rw [wrap_id (by omega) (by omega)]; norm_cast
      have hw0 : wrap64 ((i : Int) - 1) = ((i - 1 : Nat) : Int) := by rw [wrap_id (by omega) (by omega)]; omega
      obtain ⟨j, rfl⟩ : ∃ j, i = j + 1 := ⟨i - 1, by omega⟩
      simp only [Nat.add_sub_cancel] at hw0
      have hjl : j < (L s).length := by rw [L_length]; omega
      have hp := pos_succ hjl
      rw [pos_eq (L s) (j + 1) (by omega), pos_eq (L s) j (by omega)] at hp
      have hcj : cn (L s) j ≤ 1000000 := by
        have h3 := st_len_le ((L s).take j)
        rw [List.length_take, L_length] at h3
        unfold cn; omega
      refine Ev.step (fun k => ?_) hnext
      simp only [emendatelaw04_LineindexOrder.l0]
      rw [if_pos (by omega), hw0, Position_f s (by omega) (i := j) (by omega), Position_f s (by omega) (i := j + 1) (by omega), hw]
      simp only [Option.bind_some]
      rw [if_pos trivial, if_pos trivial]
      by_cases hb : (L s)[j] = 10
      · rw [if_pos hb] at hp
        have e1 := congrArg Prod.fst hp
        have e2 := congrArg Prod.snd hp
        simp only at e1 e2
        rw [e1, if_neg (by omega), if_neg (by omega), wrap_id (by omega) (by omega), if_neg (by omega)]
      · rw [if_neg hb] at hp
        have e1 := congrArg Prod.fst hp
        have e2 := congrArg Prod.snd hp
        simp only at e1 e2
        rw [e2, e1, if_neg (by omega), if_pos rfl, if_neg (by omega), wrap_id (by omega) (by omega), if_neg (by omega)]
theorem LineindexOrder_pure (s : ByteArray) (_ : s.size ≤ 140737488351232) : ∃ k, emendatelaw04_LineindexOrder.f k s = some true := by
  refine Ev.rounds (g := fun k => emendatelaw04_LineindexOrder.f k s) ?_
  by_cases h : (s.size : Int) > 300
  · exact Ev.congr (fun k => if_pos h) (Ev.bind awake_ev (Ev.now _))
  · exact Ev.congr (fun k => if_neg h) (Ev.bind (New_ev s (by omega)) (order_l0 s (by omega) (s.size + 1) 1 (by omega) (by omega)))
end Go.Proofs.Ytbdfeckgffmgpaa.Q
namespace Go.Proofs.Ytbdfeckgffmgpaa.LineindexOrderRow
open Go.ChangeShapes Go.WideShapes Go.ChangeAt Go.RowKit Go.Proofs.Ytbdfeckgffmgpaa.Q Go.Proofs.YtbdfeckgffmgpaaW.PrintWords Go.Proofs.YtbdfeckgffmgpaaW.PrintLast Go.Proofs.YtbdfeckgffmgpaaW.PrintMore
open Go.ChangeMaps (open_string shut_string)
set_option linter.unusedVariables false
theorem own : ownKnob Try.prog.godebug = none := by kernel_rfl
theorem laidOut : laidOutB Try.prog = true := by kernel_rfl
set_option maxRecDepth 100000 in
theorem lifted (os : Os) (started : os.Started) (H : Type) (enc : TypeId × Value → H) :
    ReturnsInHanded {} Try.checked os 4 .any (Rows.lineindexOrderSpec.pre6 enc Try.prog Try.f4 Rows.lineindexOrderRow.domain false) (Rows.lineindexOrderSpec.post enc Try.prog Try.f4 false true false false) := by
  refine returnsInHanded_of_change_sized (C := Try.checked) own started (by kernel_rfl) Try.func4
    (ChangeSpec.witness6 (enc := enc) (C := Try.checked) false ⟨#[], #[.string ByteArray.empty], []⟩ 8 (by kernel_rfl) (by kernel_rfl) (by kernel_rfl) (by kernel_rfl)) ?_
  intro W base args ds gs before hval0 hW hcnd hsz0 _
  have hsz : (DataW.weightsEach Try.prog (Try.f4.params.toList ++ Rows.lineindexOrderSpec.plain.varTypes Try.prog) (ds ++ gs)).all (· ≤ reachBytes) = true := hsz0
  have hval : ∀ (j : Nat) t v, Try.f4.params[j]? = some t → args[j]? = some v → Value.okWide Try.prog W .any base t v := hval0
  have hW' := hW
  obtain ⟨p, q, hA0, hV, rfl, hfz, hnd⟩ := hW
  have hA : DataW.TrodAll enc Try.prog W 0 (fun _ => true) true Try.f4.params.toList args.toList ds p := hA0
  rw [Try.params4] at hA hval hsz
  obtain ⟨v0, vs0, d0, ds0, p0, q0, hargs, rfl, rfl, h0, r0⟩ := trodAll_cons hA
  obtain ⟨rfl, rfl, rfl⟩ := trodAll_nil r0
  obtain rfl : args = #[v0] := by cases args; simp_all
  obtain ⟨rfl, rfl⟩ := trodVars_none hV
  obtain ⟨a0, rfl, rfl, rfl, y0⟩ := open_string Try.underlying9 (hval 0 9 v0 rfl rfl) h0
  have w0 : a0.size ≤ 140737488351232 := by
    have z := sized_string hsz (j := 0) (t := 9) rfl rfl
    rw [Array.length_toList] at z
    exact z
  clear hA0 hval0 hsz0
  obtain ⟨k, h⟩ := LineindexOrder_pure a0 w0
  refine (emendatelaw04_LineindexOrder.calls k a0 true W  h).mono fun e W' ⟨he, bel⟩ => ?_
  subst he
  exact ⟨_, rfl, _, _, _, [], _, [], hW', trodAll_mk1 (shut_bool Try.underlying4 _), (trodAll_cons_mk (shut_string Try.underlying9 y0) trodAll_mk0), rfl, bel.frame _, fun h => by cases h⟩
theorem over : Rows.lineindexOrderRow.holds Try.pinned (OpenSpec.ofChange Rows.lineindexOrderSpec) :=
  OpenClaim.holds_of_wide 4 Try.f4 rfl rfl rfl rfl rfl rfl rfl ⟨rfl, rfl, rfl, rfl, rfl⟩ rfl rfl rfl rfl rfl (by kernel_rfl) Try.func4 (by kernel_rfl)
    (of_decide_eq_true (by kernel_rfl)) (by unfold Func.isWrapper; first | (rw [if_pos (by decide +kernel)]; kernel_rfl) | (rw [if_neg (by decide +kernel)]; exact ⟨rfl, rfl⟩))
    (fun os started H enc _ => lifted os started H enc)
theorem proved : Rows.LineindexOrderSaid := over
#print axioms proved
end Go.Proofs.Ytbdfeckgffmgpaa.LineindexOrderRow
namespace Go.Proofs.Ytbdfeckgffmgpaa
/-- The row, under a short name, for the claim. -/
theorem lineindexOrder_holds : Rows.LineindexOrderSaid := LineindexOrderRow.proved
end Go.Proofs.Ytbdfeckgffmgpaa
