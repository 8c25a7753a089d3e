/- Each token is the longest accepted part, with its kind, and nothing is accepted at an error token: for every automaton and text the law LexerMaximalMunch returns true, and its arguments read as before. No condition. -/
import Derived.Test.YtepjegfhlglajaaRows
import Derived.Test.YtepjegfhlglajaaQOpen
import Derived.Test.YtepjegfhlglajaaQMathB
import Derived.Test.YtepjegfhlglajaaQEvalC
import Derived.Test.YtepjegfhlglajaaQF5
import Derived.Test.YtepjegfhlglajaaQF22
import Derived.Test.YtepjegfhlglajaaQF39
import Derived.Test.YtepjegfhlglajaaQF40
import Derived.WalkKit
import Derived.ProofKit
import Derived.OpenShut
import Derived.ShutString
import Derived.ChangeOld
import Derived.Below
import Derived.SizedLaws
namespace Go.Proofs.Ytepjegfhlglajaa.Q
set_option linter.unusedVariables false
open Go.RowKit Go.Proofs.YtepjegfhlglajaaW.PrintWords Go.Proofs.YtepjegfhlglajaaW.PrintLast Go.Proofs.YtepjegfhlglajaaW.PrintMore
theorem Step_f {c : List Int} {n : List (List Int)} {a : List Int} (hv : VD c n a) {st : Int} (h : st < (n.length : Int)) (b : UInt8) : emendateref10_Step.f c n a st (b.toNat : Int) = some (stp c n st b) := by
  unfold emendateref10_Step.f stp
  by_cases h0 : st < 0
  · rw [if_pos h0, if_pos h0]
  · obtain ⟨n0, n1, n2, n3, n4⟩ := nx_ok hv (by omega) h b
    obtain ⟨b0, b1⟩ := b_lt b
    rw [if_neg h0, if_neg h0, if_pos (by omega), if_pos h, if_pos b0, if_pos n0, if_pos n1, if_pos n2]
    rfl
theorem accept_f {c : List Int} {n : List (List Int)} {a : List Int} (hv : VD c n a) {st : Int} (h : st < (n.length : Int)) : emendateref10_accept.f c n a st = some (acc a st) := by
  have := hv.2.2.1
  unfold emendateref10_accept.f acc
  by_cases h0 : st < 0
  · rw [if_pos h0, if_pos h0]
  · rw [if_neg h0, if_neg h0, if_pos (by omega), if_pos (by omega)]
theorem Run_l0 {c : List Int} {n : List (List Int)} {a : List Int} (hv : VD c n a) (s : ByteArray) (hs : s.size ≤ 1048576) : ∀ (r : List UInt8) (i : Nat) (st : Int), (L s).drop i = r → i ≤ s.size → -1 ≤ st → st < (n.length : Int) →
    Ev (fun k => emendateref10_Run.l0 k s st i c n a) (acc a (runL c n r st)) := by
  intro r
  induction r with
  | nil =>
    intro i st hr hi h0 h1
    have he : i = s.size := by
      have := congrArg List.length hr
      rw [List.length_drop, L_length, List.length_nil] at this
      omega
    refine Ev.step (f := fun _ => some (acc a st)) (fun k => ?_) (Ev.now _)
    simp only [emendateref10_Run.l0]
    rw [if_neg (by omega), accept_f hv h1]
    rfl
  | cons b r ih =>
    intro i st hr hi h0 h1
    have hlt : i < s.size := by
      have := congrArg List.length hr
      rw [List.length_drop, L_length, List.length_cons] at this
      omega
    have hr' : (L s).drop (i + 1) = r := by rw [← List.drop_drop, hr]; rfl
    have hrg := runL_range c n a hv [b] st h0 h1
    refine Ev.step (f := fun k => emendateref10_Run.l0 k s (stp c n st b) ((i + 1 : Nat) : Int) c n a) (fun k => ?_) (ih (i + 1) (stp c n st b) hr' (by omega) hrg.1 hrg.2)
    simp only [emendateref10_Run.l0]
    rw [if_pos (by omega), if_pos (by omega), bt_drop hr, Step_f hv h1, wrap_id (by omega) (by omega)]
    simp only [Option.bind_some]
    norm_cast
theorem Run_ev {c : List Int} {n : List (List Int)} {a : List Int} (hv : VD c n a) (s : ByteArray) (hs : s.size ≤ 1048576) : Ev (fun k => emendateref10_Run.f k c n a s) (acc a (runL c n (L s) 0)) :=
  Run_l0 hv s hs (L s) 0 0 rfl (by omega) (by omega) (by have := hv.2.1; omega)

theorem munch_l1 {c : List Int} {n : List (List Int)} {a : List Int} (hv : VD c n a) {s : ByteArray} (hs : s.size ≤ 1048576) (l : List S32) (i off : Nat) (hi : i ≤ 1048576) (hlt : off < s.size)
    (hnext : Ev (fun k => emendatelaw12_LexerMaximalMunch.l0 k s l ((i + 1 : Nat) : Int) c n a) true) :
    ∀ (m e : Nat), s.size + 1 - e ≤ m → off + 1 ≤ e → Ev (fun k => emendatelaw12_LexerMaximalMunch.l1 k s l i e c n a (tko c n a s off).k off (S (tko c n a s off).tx) (tko c n a s off).lk) true := by
  obtain ⟨t1, t2, t3, t4, t5⟩ := tko_len (c := c) (n := n) (a := a) hlt
  obtain ⟨u1, u2, u3, u4⟩ := tk_munch c n a hv (drop_ne hlt) off
  have hdl : ((L s).drop off).length = s.size - off := by rw [List.length_drop, L_length]
  have hend : ∀ e : Nat, s.size < e → Ev (fun k => emendatelaw12_LexerMaximalMunch.l1 k s l i e c n a (tko c n a s off).k off (S (tko c n a s off).tx) (tko c n a s off).lk) true := by
    intro e he
    refine Ev.step (f := fun k => emendatelaw12_LexerMaximalMunch.l0 k s l ((i + 1 : Nat) : Int) c n a) (fun k => ?_) hnext
    simp only [emendatelaw12_LexerMaximalMunch.l1]
    rw [if_neg (by omega), wrap_id (by omega) (by omega)]
    norm_cast
  intro m
  induction m with
  | zero => intro e hm he; exact hend e (by omega)
  | succ m ih =>
    intro e hm he
    by_cases hee : s.size < e
    · exact hend e hee
    · have hrun := Run_ev hv (s.extract off e) (by rw [← L_length, L_extract, List.length_take, hdl]; omega)
      rw [L_extract] at hrun
      refine Ev.step (f := fun k => (emendateref10_Run.f k c n a (s.extract off e)).bind fun t251 => (if (e : Int) = (wrap64 ((off : Int) + ((S (tko c n a s off).tx).size : Int))) then (if t251 = (tko c n a s off).k then (emendatelaw12_LexerMaximalMunch.l1 k s l i (wrap64 ((e : Int) + 1)) c n a (tko c n a s off).k off (S (tko c n a s off).tx) (tko c n a s off).lk) else (some false)) else (if (e : Int) > (wrap64 ((off : Int) + ((S (tko c n a s off).tx).size : Int))) then (emendatelaw12_LexerMaximalMunch.j3 k s l i e t251 true c n a (tko c n a s off).k off (S (tko c n a s off).tx) (tko c n a s off).lk) else (emendatelaw12_LexerMaximalMunch.j3 k s l i e t251 ((tko c n a s off).k == (-1)) c n a (tko c n a s off).k off (S (tko c n a s off).tx) (tko c n a s off).lk)))) (fun k => ?_) (Ev.bind hrun ?_)
      · simp only [emendatelaw12_LexerMaximalMunch.l1]
        rw [if_pos (by omega), if_pos (by omega), if_pos (by omega), toNat_cast, toNat_cast]
      · have hn := ih (e + 1) (by omega) (by omega)
        have hj3 : ∀ (r : Int) (b : Bool), (b = true → r < 0) → Ev (fun k => emendatelaw12_LexerMaximalMunch.j3 k s l i e r b c n a (tko c n a s off).k off (S (tko c n a s off).tx) (tko c n a s off).lk) true := by
          intro r b hb
          refine Ev.step (f := fun k => emendatelaw12_LexerMaximalMunch.l1 k s l i ((e + 1 : Nat) : Int) c n a (tko c n a s off).k off (S (tko c n a s off).tx) (tko c n a s off).lk) (fun k => ?_) hn
          simp only [emendatelaw12_LexerMaximalMunch.j3]
          rw [wrap_id (by omega) (by omega)]
          by_cases hb' : b = true
          · rw [if_pos hb', if_neg (by have := hb hb'; omega)]; norm_cast
          · rw [if_neg hb']; norm_cast
        rw [wrap_id (x := (e : Int) + 1) (by omega) (by omega), S_size, wrap_id (x := (off : Int) + (tko c n a s off).tx.length) (by omega) (by omega)]
        by_cases h1 : (e : Int) = (off : Int) + (tko c n a s off).tx.length
        · have e1 : e - off = (tko c n a s off).tx.length := by omega
          refine Ev.congr (fun k => ?_) hn
          rw [if_pos h1, if_pos ?_]
          · norm_cast
          · rw [e1]; exact u1
        · by_cases h2 : (e : Int) > (off : Int) + (tko c n a s off).tx.length
          · refine Ev.congr (fun k => ?_) (hj3 _ true fun _ => u4 (e - off) (by omega) (by omega) (.inl (by change (tko c n a s off).tx.length < _; omega)))
            rw [if_neg h1, if_pos h2]
          · refine Ev.congr (fun k => ?_) (hj3 _ ((tko c n a s off).k == (-1)) fun hb => u4 (e - off) (by omega) (by omega) (.inr ⟨by change _ ≠ (tko c n a s off).tx.length; omega, beq_iff_eq.1 hb⟩))
            rw [if_neg h1, if_neg h2]

theorem munch_l0 {c : List Int} {n : List (List Int)} {a : List Int} (hv : VD c n a) {s : ByteArray} (hs : s.size ≤ 1048576) {l : List S32} : ∀ (m i off : Nat), s.size - off ≤ m → Cur c n a s l i off → Ev (fun k => emendatelaw12_LexerMaximalMunch.l0 k s l i c n a) true := by
  have hend : ∀ (i off : Nat), Cur c n a s l i off → off = s.size → Ev (fun k => emendatelaw12_LexerMaximalMunch.l0 k s l i c n a) true := by
    intro i off h he
    have hi := cur_end h he
    refine Ev.step (f := fun _ => some true) (fun k => ?_) (Ev.now _)
    simp only [emendatelaw12_LexerMaximalMunch.l0]
    rw [if_neg (by omega)]
  intro m
  induction m with
  | zero => intro i off hm h; exact hend i off h (by have := h.1; omega)
  | succ m ih =>
    intro i off hm h
    by_cases he : off = s.size
    · exact hend i off h he
    · have hlt : off < s.size := by have := h.1; omega
      obtain ⟨h1, h2, h3⟩ := cur_step h hlt
      obtain ⟨t1, t2, t3, t4, t5⟩ := tko_len (c := c) (n := n) (a := a) hlt
      obtain ⟨u1, u2, u3, u4⟩ := tk_munch c n a hv (drop_ne hlt) off
      have hio := h.2.1
      have hin := munch_l1 hv hs l i off (by omega) hlt (ih _ _ (by omega) h3) (s.size + 1) (off + 1) (by omega) (by omega)
      refine Ev.step (f := fun k => emendatelaw12_LexerMaximalMunch.j1 k s l i false c n a (tko c n a s off).k off (S (tko c n a s off).tx) (tko c n a s off).lk) (fun k => ?_) (Ev.step (fun k => ?_) hin)
      · simp only [emendatelaw12_LexerMaximalMunch.l0]
        rw [if_pos (by omega), if_pos (by omega), rdT_get h2]
        have e0 : (tko c n a s off).s.f1 = (off : Int) := rfl
        have e1 : (tko c n a s off).s.f2 = S (tko c n a s off).tx := rfl
        have e2 : (tko c n a s off).s.f3 = ((tko c n a s off).lk : Int) := rfl
        have e3 : (tko c n a s off).s.f0 = (tko c n a s off).k := rfl
        rw [e0, e1, e2, e3, S_size, if_neg (by omega), if_neg (by omega), wrap_id (x := (s.size : Int) - off) (by omega) (by omega), if_neg (by omega)]
        by_cases hk : (tko c n a s off).k = -1
        · rw [if_pos hk]
          have : (tko c n a s off).tx.length = 1 := u2 hk
          rw [this]
          rfl
        · rw [if_neg hk]
      · simp only [emendatelaw12_LexerMaximalMunch.j1]
        rw [if_neg (by simp), wrap_id (by omega) (by omega)]
        norm_cast
theorem LexerMaximalMunch_pure (c : List Int) (n : List (List Int)) (a : List Int) (s : ByteArray) (hrows : ∀ s : Int, 0 ≤ s → s < (n.length : Int) → (rd_L3 n s).length ≤ 9223372036854775807) (_ : s.size ≤ 140737488351232) :
    ∃ k, emendatelaw12_LexerMaximalMunch.f k c n a s = some true := by
  refine Ev.rounds (g := fun k => emendatelaw12_LexerMaximalMunch.f k c n a s) (behind_awake (behind_light hrows (fun hv hs => ?_) (Ev.now true)))
  exact Ev.bind (Lex_ev hv s (by omega)) (munch_l0 hv (by omega) s.size 0 0 (by omega) (cur_start s))
end Go.Proofs.Ytepjegfhlglajaa.Q
namespace Go.Proofs.Ytepjegfhlglajaa.LexerMaximalMunchRow
open Go.ChangeShapes Go.WideShapes Go.ChangeAt Go.RowKit Go.Proofs.Ytepjegfhlglajaa.Q Go.Proofs.YtepjegfhlglajaaW.PrintWords Go.Proofs.YtepjegfhlglajaaW.PrintLast Go.Proofs.YtepjegfhlglajaaW.PrintMore
open Go.ChangeMaps (open_string shut_string)
set_option linter.unusedVariables false
theorem own : ownKnob Try.prog.godebug = none := by kernel_rfl
theorem laidOut : laidOutB Try.prog = true := by kernel_rfl
set_option maxRecDepth 100000 in
theorem lifted (os : Os) (started : os.Started) (H : Type) (enc : TypeId × Value → H) :
    ReturnsInHanded {} Try.checked os 5 .any (Rows.lexerMaximalMunchSpec.pre6 enc Try.prog Try.f5 Rows.lexerMaximalMunchRow.domain false) (Rows.lexerMaximalMunchSpec.post enc Try.prog Try.f5 false true false false) := by
  refine returnsInHanded_of_change_sized (C := Try.checked) own started (by kernel_rfl) Try.func5
    (ChangeSpec.witness6 (enc := enc) (C := Try.checked) false ⟨#[], #[.agg #[.slice none 0 0, .slice none 0 0, .slice none 0 0], .string ByteArray.empty], []⟩ 8 (by kernel_rfl) (by kernel_rfl) (by kernel_rfl) (by kernel_rfl)) ?_
  intro W base args ds gs before hval0 hW hcnd hsz0 _
  have hsz : (DataW.weightsEach Try.prog (Try.f5.params.toList ++ Rows.lexerMaximalMunchSpec.plain.varTypes Try.prog) (ds ++ gs)).all (· ≤ reachBytes) = true := hsz0
  have hval : ∀ (j : Nat) t v, Try.f5.params[j]? = some t → args[j]? = some v → Value.okWide Try.prog W .any base t v := hval0
  have hW' := hW
  obtain ⟨p, q, hA0, hV, rfl, hfz, hnd⟩ := hW
  have hA : DataW.TrodAll enc Try.prog W 0 (fun _ => true) true Try.f5.params.toList args.toList ds p := hA0
  rw [Try.params5] at hA hval hsz
  obtain ⟨v0, vs0, d0, ds0, p0, q0, hargs, rfl, rfl, h0, r0⟩ := trodAll_cons hA
  obtain ⟨v1, vs1, d1, ds1, p1, q1, rfl, rfl, rfl, h1, r1⟩ := trodAll_cons r0
  obtain ⟨rfl, rfl, rfl⟩ := trodAll_nil r1
  obtain rfl : args = #[v0, v1] := by cases args; simp_all
  obtain ⟨rfl, rfl⟩ := trodVars_none hV
  have k0 := h0
  have lt0 : ∀ x ∈ p0, x.block < W.heap.size := by obtain ⟨m, hm⟩ := k0; exact DataW.trod_lt m _ _ _ hm
  obtain ⟨A0_0, c0_0, l0_0, A0_1, c0_1, l0_1, A0_2, c0_2, l0_2, rfl, hr0_0, hc0_0, hr0_1, hc0_1, hr0_2, hc0_2⟩ := open_dfa (hval 0 25 v0 rfl rfl) h0
  obtain ⟨a1, rfl, rfl, rfl, y1⟩ := open_string Try.underlying9 (hval 1 9 v1 rfl rfl) h1
  have w1 : a1.size ≤ 140737488351232 := by
    have z := sized_string hsz (j := 1) (t := 9) rfl rfl
    rw [Array.length_toList] at z
    exact z
  clear hA0 hval0 hsz0
  obtain ⟨k, h⟩ := LexerMaximalMunch_pure l0_0 l0_1 l0_2 a1 (rows_bound hr0_1) w1
  refine (emendatelaw12_LexerMaximalMunch.calls k _ _ l0_0 _ _ l0_1 _ _ l0_2 a1 true W hr0_0 hc0_0 hr0_1 hc0_1 hr0_2 hc0_2 h).mono fun e W' ⟨he, bel⟩ => ?_
  subst he
  exact ⟨_, rfl, _, _, _, [], _, [], hW', trodAll_mk1 (shut_bool Try.underlying4 _), (trodAll_cons_mk (Below.trod laidOut (by kernel_rfl) (of_decide_eq_true (by kernel_rfl)) k0 bel lt0) (trodAll_cons_mk (shut_string Try.underlying9 y1) trodAll_mk0)), rfl, bel.frame _, fun h => by cases h⟩
theorem over : Rows.lexerMaximalMunchRow.holds Try.pinned (OpenSpec.ofChange Rows.lexerMaximalMunchSpec) :=
  OpenClaim.holds_of_wide 5 Try.f5 rfl rfl rfl rfl rfl rfl rfl ⟨rfl, rfl, rfl, rfl, rfl⟩ rfl rfl rfl rfl rfl (by kernel_rfl) Try.func5 (by kernel_rfl)
    (of_decide_eq_true (by kernel_rfl)) (by unfold Func.isWrapper; first | (rw [if_pos (by decide +kernel)]; kernel_rfl) | (rw [if_neg (by decide +kernel)]; exact ⟨rfl, rfl⟩))
    (fun os started H enc _ => lifted os started H enc)
theorem proved : Rows.LexerMaximalMunchSaid := over
#print axioms proved
end Go.Proofs.Ytepjegfhlglajaa.LexerMaximalMunchRow
namespace Go.Proofs.Ytepjegfhlglajaa
/-- The row, under a short name, for the claim. -/
theorem lexerMaximalMunch_holds : Rows.LexerMaximalMunchSaid := LexerMaximalMunchRow.proved
end Go.Proofs.Ytepjegfhlglajaa
