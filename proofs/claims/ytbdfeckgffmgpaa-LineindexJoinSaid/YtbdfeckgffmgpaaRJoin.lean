/- The lines joined with line feeds are the text, and no line contains one: for every text the law LineindexJoin returns true, and its argument reads as before. No condition. -/
import Derived.Test.YtbdfeckgffmgpaaRows
import Derived.Test.YtbdfeckgffmgpaaQEval
import Derived.Test.YtbdfeckgffmgpaaQF7
import Derived.WalkKit
import Derived.ProofKit
import Derived.OpenShut
import Derived.ShutString
import Derived.ChangeOld
import Derived.Below
import Derived.SizedLaws
namespace Go.Proofs.Ytbdfeckgffmgpaa.Q
set_option linter.unusedVariables false
open Go.RowKit Go.Proofs.YtbdfeckgffmgpaaW.PrintWords Go.Proofs.YtbdfeckgffmgpaaW.PrintLast Go.Proofs.YtbdfeckgffmgpaaW.PrintMore
/-- The text up to the end of line n, out of the text up to the end of the line before. -/
theorem join_step {t : List UInt8} {n : Nat} (h : n < (st t).length) : t.take (too t (n + 1)) = t.take (too t n) ++ 10 :: line t (n + 1) := by
  obtain ⟨hi, hb⟩ := too_lf h
  have hfs := frm_succ h
  have hft := frm_too (t := t) (n := n + 1) (by omega)
  unfold line
  rw [hfs]
  rw [hfs] at hft
  have e1 : t.take (too t (n + 1)) = t.take (too t n + 1) ++ (t.drop (too t n + 1)).take (too t (n + 1) - (too t n + 1)) := by
    have h1 : (t.take (too t (n + 1))).take (too t n + 1) ++ (t.take (too t (n + 1))).drop (too t n + 1) = t.take (too t (n + 1)) := List.take_append_drop _ _
    rw [List.take_take, Nat.min_eq_left hft.1, List.drop_take] at h1
    exact h1.symm
  rw [e1, List.take_succ_eq_append_getElem hi, hb, List.append_assoc]
  rfl
theorem join_zero (t : List UInt8) : t.take (too t 0) = line t 0 := by unfold line; simp [frm]
/-- What is joined behind n lines. -/
def joined (t : List UInt8) (n : Nat) : List UInt8 := if n = 0 then [] else t.take (too t (n - 1))
theorem joined_size (t : List UInt8) (n : Nat) : (joined t n).length ≤ t.length := by
  unfold joined
  split
  · simp
  · rw [List.length_take]; omega
theorem join_l1 (s : ByteArray) (hs : s.size ≤ 300) (n : Nat) (hn : n ≤ (st (L s)).length) (hnext : Ev (fun k => emendatelaw04_LineindexJoin.l0 k s (S (joined (L s) (n + 1))) ((n + 1 : Nat) : Int) s (I (st (L s)))) true) :
    ∀ (m i : Nat), (line (L s) n).length - i ≤ m → i ≤ (line (L s) n).length → Ev (fun k => emendatelaw04_LineindexJoin.l1 k s (S (joined (L s) n)) n (S (line (L s) n)) i s (I (st (L s)))) true := by
  have hll := line_length hn
  have hft := frm_too hn
  have hjs := joined_size (L s) n
  have hst := st_len_le (L s)
  rw [L_length] at hft hjs hst
  have hend : ∀ i : Nat, i = (line (L s) n).length → Ev (fun k => emendatelaw04_LineindexJoin.l1 k s (S (joined (L s) n)) n (S (line (L s) n)) i s (I (st (L s)))) true := by
    intro i he
    refine Ev.step (fun k => ?_) hnext
    simp only [emendatelaw04_LineindexJoin.l1]
    rw [if_neg (by rw [S_size]; omega), show wrap64 ((n : Int) + 1) = ((n + 1 : Nat) : Int) from by rw [wrap_id (by omega) (by omega)]; norm_cast]
    by_cases h0 : n = 0
    · subst h0
      rw [if_neg (by omega), if_pos (by rw [S_size, S_size]; omega), S_append]
      have e : joined (L s) 0 ++ line (L s) 0 = joined (L s) (0 + 1) := by
        unfold joined
        rw [if_pos rfl, if_neg (by omega), Nat.add_sub_cancel, join_zero]; rfl
      rw [e]
    · rw [if_pos (by omega), if_pos (by rw [S_size]; omega)]
      have e2 : S (joined (L s) n) ++ (⟨#[10]⟩ : ByteArray) = S (joined (L s) n ++ [10]) := S_append _ [10]
      rw [e2, if_pos (by rw [S_size, S_size, List.length_append]; simp only [List.length_cons, List.length_nil]; omega), S_append]
      have e : joined (L s) n ++ [10] ++ line (L s) n = joined (L s) (n + 1) := by
        obtain ⟨q, rfl⟩ : ∃ q, n = q + 1 := ⟨n - 1, by omega⟩
        have := join_step (t := L s) (n := q) (by omega)
        unfold joined
        rw [if_neg (by omega), if_neg (by omega), Nat.add_sub_cancel, Nat.add_sub_cancel, this, List.append_assoc]
        rfl
      rw [e]
  intro m
  induction m with
  | zero => intro i h1 h2; exact hend i (by omega)
  | succ m ih =>
    intro i h1 h2
    by_cases he : i = (line (L s) n).length
    · exact hend i he
    · have hlt : i < (line (L s) n).length := by omega
      have hnx := ih (i + 1) (by omega) (by omega)
      have hlt2 : (i : Int) < ((line (L s) n).length : Int) := Int.ofNat_lt.2 hlt
      have hwi : wrap64 ((i : Int) + 1) = ((i + 1 : Nat) : Int) := by
        clear hnx ih hend hlt2
        rw [wrap_id (by omega) (by omega)]; norm_cast
      have hne := line_get hn hlt
      have hb : ¬ bt (S (line (L s) n)) (i : Int) = 10 := by
        rw [is_lf (s := S (line (L s) n)) (by rw [S_size]; exact hlt) (by rw [L_S]; exact hlt)]
        simp only [L_S]
        exact hne
      clear hne
      refine Ev.step (fun k => ?_) hnx
      simp only [emendatelaw04_LineindexJoin.l1]
      rw [if_pos (by rw [S_size]; exact hlt2), if_pos (Int.natCast_nonneg i), if_neg hb, hwi]
theorem join_l0 (s : ByteArray) (hs : s.size ≤ 300) : ∀ (m n : Nat), (st (L s)).length + 1 - n ≤ m → n ≤ (st (L s)).length + 1 → Ev (fun k => emendatelaw04_LineindexJoin.l0 k s (S (joined (L s) n)) n s (I (st (L s)))) true := by
  have hst := st_len_le (L s)
  rw [L_length] at hst
  have hend : ∀ n : Nat, n = (st (L s)).length + 1 → Ev (fun k => emendatelaw04_LineindexJoin.l0 k s (S (joined (L s) n)) n s (I (st (L s)))) true := by
    intro n hn
    have e : joined (L s) n = L s := by
      unfold joined
      rw [if_neg (by omega), hn, Nat.add_sub_cancel]
      have : too (L s) (st (L s)).length = (L s).length := by unfold too; rw [if_neg (by omega)]
      rw [this, List.take_length]
    rw [e, S_L]
    refine Ev.step (f := fun k => emendatelaw04_LineindexJoin.j1 k s s n false s (I (st (L s)))) (fun k => ?_) (Ev.step (f := fun k => (emendatelaw04_awake.f k).bind fun t => (if t = true then (some (s.toList == s.toList)) else (some false))) (fun k => ?_) (Ev.bind awake_ev ?_))
    · simp only [emendatelaw04_LineindexJoin.l0]
      rw [Lines_f s (by omega)]
      simp only [Option.bind_some]
      rw [if_neg (by omega)]
    · simp only [emendatelaw04_LineindexJoin.j1]
      rw [if_neg (by simp)]
    · exact Ev.congr (fun k => by rw [if_pos rfl, beq_self_eq_true]) (Ev.now true)
  intro m
  induction m with
  | zero => intro n h1 h2; exact hend n (by omega)
  | succ m ih =>
    intro n h1 h2
    by_cases he : n = (st (L s)).length + 1
    · exact hend n he
    · have hn : n ≤ (st (L s)).length := by omega
      have hin := join_l1 s hs n hn (ih (n + 1) (by omega) (by omega)) (line (L s) n).length 0 (by omega) (by omega)
      refine Ev.step (f := fun k => emendatelaw04_LineindexJoin.j1 k s (S (joined (L s) n)) n true s (I (st (L s)))) (fun k => ?_) (Ev.step (fun k => ?_) hin)
      · simp only [emendatelaw04_LineindexJoin.l0]
        rw [Lines_f s (by omega)]
        simp only [Option.bind_some]
        rw [if_pos (by omega), decide_eq_true (by omega)]
      · simp only [emendatelaw04_LineindexJoin.j1]
        rw [if_pos trivial, Line_f s (by omega) hn]
        rfl
theorem LineindexJoin_pure (s : ByteArray) (_ : s.size ≤ 140737488351232) : ∃ k, emendatelaw04_LineindexJoin.f k s = some true := by
  refine Ev.rounds (g := fun k => emendatelaw04_LineindexJoin.f k s) ?_
  by_cases h : (s.size : Int) > 300
  · exact Ev.congr (fun k => if_pos h) (Ev.bind awake_ev (Ev.now _))
  · refine Ev.congr (fun k => if_neg h) (Ev.bind (New_ev s (by omega)) ?_)
    exact join_l0 s (by omega) ((st (L s)).length + 1) 0 (by omega) (by omega)
end Go.Proofs.Ytbdfeckgffmgpaa.Q
namespace Go.Proofs.Ytbdfeckgffmgpaa.LineindexJoinRow
open Go.ChangeShapes Go.WideShapes Go.ChangeAt Go.RowKit Go.Proofs.Ytbdfeckgffmgpaa.Q Go.Proofs.YtbdfeckgffmgpaaW.PrintWords Go.Proofs.YtbdfeckgffmgpaaW.PrintLast Go.Proofs.YtbdfeckgffmgpaaW.PrintMore
open Go.ChangeMaps (open_string shut_string)
set_option linter.unusedVariables false
theorem own : ownKnob Try.prog.godebug = none := by kernel_rfl
theorem laidOut : laidOutB Try.prog = true := by kernel_rfl
set_option maxRecDepth 100000 in
theorem lifted (os : Os) (started : os.Started) (H : Type) (enc : TypeId × Value → H) :
    ReturnsInHanded {} Try.checked os 7 .any (Rows.lineindexJoinSpec.pre6 enc Try.prog Try.f7 Rows.lineindexJoinRow.domain false) (Rows.lineindexJoinSpec.post enc Try.prog Try.f7 false true false false) := by
  refine returnsInHanded_of_change_sized (C := Try.checked) own started (by kernel_rfl) Try.func7
    (ChangeSpec.witness6 (enc := enc) (C := Try.checked) false ⟨#[], #[.string ByteArray.empty], []⟩ 8 (by kernel_rfl) (by kernel_rfl) (by kernel_rfl) (by kernel_rfl)) ?_
  intro W base args ds gs before hval0 hW hcnd hsz0 _
  have hsz : (DataW.weightsEach Try.prog (Try.f7.params.toList ++ Rows.lineindexJoinSpec.plain.varTypes Try.prog) (ds ++ gs)).all (· ≤ reachBytes) = true := hsz0
  have hval : ∀ (j : Nat) t v, Try.f7.params[j]? = some t → args[j]? = some v → Value.okWide Try.prog W .any base t v := hval0
  have hW' := hW
  obtain ⟨p, q, hA0, hV, rfl, hfz, hnd⟩ := hW
  have hA : DataW.TrodAll enc Try.prog W 0 (fun _ => true) true Try.f7.params.toList args.toList ds p := hA0
  rw [Try.params7] at hA hval hsz
  obtain ⟨v0, vs0, d0, ds0, p0, q0, hargs, rfl, rfl, h0, r0⟩ := trodAll_cons hA
  obtain ⟨rfl, rfl, rfl⟩ := trodAll_nil r0
  obtain rfl : args = #[v0] := by cases args; simp_all
  obtain ⟨rfl, rfl⟩ := trodVars_none hV
  obtain ⟨a0, rfl, rfl, rfl, y0⟩ := open_string Try.underlying9 (hval 0 9 v0 rfl rfl) h0
  have w0 : a0.size ≤ 140737488351232 := by
    have z := sized_string hsz (j := 0) (t := 9) rfl rfl
    rw [Array.length_toList] at z
    exact z
  clear hA0 hval0 hsz0
  obtain ⟨k, h⟩ := LineindexJoin_pure a0 w0
  refine (emendatelaw04_LineindexJoin.calls k a0 true W  h).mono fun e W' ⟨he, bel⟩ => ?_
  subst he
  exact ⟨_, rfl, _, _, _, [], _, [], hW', trodAll_mk1 (shut_bool Try.underlying4 _), (trodAll_cons_mk (shut_string Try.underlying9 y0) trodAll_mk0), rfl, bel.frame _, fun h => by cases h⟩
theorem over : Rows.lineindexJoinRow.holds Try.pinned (OpenSpec.ofChange Rows.lineindexJoinSpec) :=
  OpenClaim.holds_of_wide 7 Try.f7 rfl rfl rfl rfl rfl rfl rfl ⟨rfl, rfl, rfl, rfl, rfl⟩ rfl rfl rfl rfl rfl (by kernel_rfl) Try.func7 (by kernel_rfl)
    (of_decide_eq_true (by kernel_rfl)) (by unfold Func.isWrapper; first | (rw [if_pos (by decide +kernel)]; kernel_rfl) | (rw [if_neg (by decide +kernel)]; exact ⟨rfl, rfl⟩))
    (fun os started H enc _ => lifted os started H enc)
theorem proved : Rows.LineindexJoinSaid := over
#print axioms proved
end Go.Proofs.Ytbdfeckgffmgpaa.LineindexJoinRow
namespace Go.Proofs.Ytbdfeckgffmgpaa
/-- The row, under a short name, for the claim. -/
theorem lineindexJoin_holds : Rows.LineindexJoinSaid := LineindexJoinRow.proved
end Go.Proofs.Ytbdfeckgffmgpaa
