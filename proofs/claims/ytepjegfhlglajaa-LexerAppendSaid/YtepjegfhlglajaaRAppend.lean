/- Appending to a text keeps all tokens whose lookahead did not reach its end: for every automaton and two texts the law LexerAppend returns true, and its arguments read as before. No condition. -/
import Derived.Test.YtepjegfhlglajaaRows
import Derived.Test.YtepjegfhlglajaaQOpen
import Derived.Test.YtepjegfhlglajaaQMathB
import Derived.Test.YtepjegfhlglajaaQEvalC
import Derived.Test.YtepjegfhlglajaaQF9
import Derived.WalkKit
import Derived.ProofKit
import Derived.OpenShut
import Derived.ShutString
import Derived.ChangeOld
import Derived.Below
import Derived.SizedLaws
namespace Go.Proofs.Ytepjegfhlglajaa.Q
set_option linter.unusedVariables false
open Go.RowKit Go.Proofs.YtepjegfhlglajaaW.PrintWords Go.Proofs.YtepjegfhlglajaaW.PrintLast Go.Proofs.YtepjegfhlglajaaW.PrintMore
theorem append_l0 {c : List Int} {n : List (List Int)} {a : List Int} {s t : ByteArray} (hs : s.size ≤ 524288) (ht : t.size ≤ 524288) {l m : List S32} : ∀ (d i off : Nat), s.size - off ≤ d → Cur c n a s l i off → Cur c n a (s ++ t) m i off → Ev (fun k => emendatelaw12_LexerAppend.l0 k s l m i) true := by
  have hst : (s ++ t).size = s.size + t.size := by rw [← L_length, L_append, List.length_append, L_length, L_length]
  have hno : ∀ i : Nat, Ev (fun k => emendatelaw12_LexerAppend.j2 k s l m i false) true := by
    intro i
    refine Ev.step (f := fun _ => some true) (fun k => ?_) (Ev.now _)
    simp only [emendatelaw12_LexerAppend.j2]
    rw [if_neg (by simp)]
  have hend : ∀ (i off : Nat), Cur c n a s l i off → off = s.size → Ev (fun k => emendatelaw12_LexerAppend.l0 k s l m i) true := by
    intro i off h he
    have hi := cur_end h he
    refine Ev.step (fun k => ?_) (hno i)
    simp only [emendatelaw12_LexerAppend.l0]
    rw [if_neg (by omega)]
  intro d
  induction d with
  | zero => intro i off hm h _; exact hend i off h (by have := h.1; omega)
  | succ d ih =>
    intro i off hm h hM
    by_cases he : off = s.size
    · exact hend i off h he
    · have hlt : off < s.size := by have := h.1; omega
      obtain ⟨h1, h2, h3⟩ := cur_step h hlt
      obtain ⟨g1, g2, g3⟩ := cur_step hM (by omega)
      obtain ⟨t1, t2, t3, t4, t5⟩ := tko_len (c := c) (n := n) (a := a) hlt
      have hio := h.2.1
      have e0 : (tko c n a s off).s.f1 = (off : Int) := rfl
      have e2 : (tko c n a s off).s.f3 = ((tko c n a s off).lk : Int) := rfl
      by_cases hlk : off + (tko c n a s off).lk ≤ s.size
      · have hsame : tko c n a (s ++ t) off = tko c n a s off := by
          have hdl : ((L s).drop off).length = s.size - off := by rw [List.length_drop, L_length]
          have := tk_local (c := c) (n := n) (a := a) (t := (L s).drop off) (u := ((L s).drop off).drop (tko c n a s off).lk ++ L t) (drop_ne hlt) off (by change (tko c n a s off).lk ≤ _; omega) off
          unfold tko
          rw [L_append, List.drop_append_of_le_length (by rw [L_length]; omega)]
          rw [← List.append_assoc, show tk c n a ((L s).drop off) off = tko c n a s off from rfl, List.take_append_drop] at this
          exact this
        rw [hsame] at g2 g3
        refine Ev.step (f := fun k => emendatelaw12_LexerAppend.j2 k s l m i true) (fun k => ?_) (Ev.step (f := fun k => emendatelaw12_LexerAppend.l0 k s l m ((i + 1 : Nat) : Int)) (fun k => ?_) (ih _ _ (by omega) h3 g3))
        · simp only [emendatelaw12_LexerAppend.l0]
          rw [if_pos (by omega), if_pos (by omega), rdT_get h2, e0, e2, wrap_id (by omega) (by omega), decide_eq_true (by omega)]
        · simp only [emendatelaw12_LexerAppend.j2]
          rw [if_pos trivial, if_neg (by omega), if_pos (by omega), if_pos (by omega), if_pos (by omega), rdT_get h2, rdT_get g2, if_neg (by simp), wrap_id (by omega) (by omega)]
          norm_cast
      · refine Ev.step (fun k => ?_) (hno i)
        simp only [emendatelaw12_LexerAppend.l0]
        rw [if_pos (by omega), if_pos (by omega), rdT_get h2, e0, e2, wrap_id (by omega) (by omega), decide_eq_false (by omega)]
theorem LexerAppend_pure (c : List Int) (n : List (List Int)) (a : List Int) (s t : ByteArray) (hrows : ∀ s : Int, 0 ≤ s → s < (n.length : Int) → (rd_L3 n s).length ≤ 9223372036854775807) (_ : s.size ≤ 140737488351232) (_ : t.size ≤ 140737488351232) :
    ∃ k, emendatelaw12_LexerAppend.f k c n a s t = some true := by
  have hj0 : Ev (fun k => emendatelaw12_LexerAppend.j0 k s t true c n a) true := by
    refine Ev.step (f := fun _ => some true) (fun k => ?_) (Ev.now _)
    simp only [emendatelaw12_LexerAppend.j0]
    rw [if_pos trivial]
  refine Ev.rounds (g := fun k => emendatelaw12_LexerAppend.f k c n a s t) (behind_awake (behind_light hrows (fun hv hs => ?_) hj0))
  by_cases h0 : (t.size : Int) > 30
  · rw [decide_eq_true h0]; exact hj0
  · rw [decide_eq_false h0]
    have hst : (s ++ t).size = s.size + t.size := by rw [← L_length, L_append, List.length_append, L_length, L_length]
    refine Ev.step (f := fun k => (lexer_Lex.f k c n a s).bind fun t283 => (if s.size + t.size ≤ 9223372036854775807 then ((lexer_Lex.f k c n a (s ++ t)).bind fun t286 => (emendatelaw12_LexerAppend.l0 k s t283 t286 0)) else (none))) (fun k => ?_) (Ev.bind (Lex_ev hv s (by omega)) ?_)
    · simp only [emendatelaw12_LexerAppend.j0]
      rw [if_neg (by simp)]
    · refine Ev.congr (fun k => if_pos (by omega)) (Ev.bind (Lex_ev hv (s ++ t) (by omega)) ?_)
      exact append_l0 (by omega) (by omega) s.size 0 0 (by omega) (cur_start s) (cur_start (s ++ t))
end Go.Proofs.Ytepjegfhlglajaa.Q
namespace Go.Proofs.Ytepjegfhlglajaa.LexerAppendRow
open Go.ChangeShapes Go.WideShapes Go.ChangeAt Go.RowKit Go.Proofs.Ytepjegfhlglajaa.Q Go.Proofs.YtepjegfhlglajaaW.PrintWords Go.Proofs.YtepjegfhlglajaaW.PrintLast Go.Proofs.YtepjegfhlglajaaW.PrintMore
open Go.ChangeMaps (open_string shut_string)
set_option linter.unusedVariables false
theorem own : ownKnob Try.prog.godebug = none := by kernel_rfl
theorem laidOut : laidOutB Try.prog = true := by kernel_rfl
set_option maxRecDepth 100000 in
theorem lifted (os : Os) (started : os.Started) (H : Type) (enc : TypeId × Value → H) :
    ReturnsInHanded {} Try.checked os 9 .any (Rows.lexerAppendSpec.pre6 enc Try.prog Try.f9 Rows.lexerAppendRow.domain false) (Rows.lexerAppendSpec.post enc Try.prog Try.f9 false true false false) := by
  refine returnsInHanded_of_change_sized (C := Try.checked) own started (by kernel_rfl) Try.func9
    (ChangeSpec.witness6 (enc := enc) (C := Try.checked) false ⟨#[], #[.agg #[.slice none 0 0, .slice none 0 0, .slice none 0 0], .string ByteArray.empty, .string ByteArray.empty], []⟩ 8 (by kernel_rfl) (by kernel_rfl) (by kernel_rfl) (by kernel_rfl)) ?_
  intro W base args ds gs before hval0 hW hcnd hsz0 _
  have hsz : (DataW.weightsEach Try.prog (Try.f9.params.toList ++ Rows.lexerAppendSpec.plain.varTypes Try.prog) (ds ++ gs)).all (· ≤ reachBytes) = true := hsz0
  have hval : ∀ (j : Nat) t v, Try.f9.params[j]? = some t → args[j]? = some v → Value.okWide Try.prog W .any base t v := hval0
  have hW' := hW
  obtain ⟨p, q, hA0, hV, rfl, hfz, hnd⟩ := hW
  have hA : DataW.TrodAll enc Try.prog W 0 (fun _ => true) true Try.f9.params.toList args.toList ds p := hA0
  rw [Try.params9] at hA hval hsz
  obtain ⟨v0, vs0, d0, ds0, p0, q0, hargs, rfl, rfl, h0, r0⟩ := trodAll_cons hA
  obtain ⟨v1, vs1, d1, ds1, p1, q1, rfl, rfl, rfl, h1, r1⟩ := trodAll_cons r0
  obtain ⟨v2, vs2, d2, ds2, p2, q2, rfl, rfl, rfl, h2, r2⟩ := trodAll_cons r1
  obtain ⟨rfl, rfl, rfl⟩ := trodAll_nil r2
  obtain rfl : args = #[v0, v1, v2] := by cases args; simp_all
  obtain ⟨rfl, rfl⟩ := trodVars_none hV
  have k0 := h0
  have lt0 : ∀ x ∈ p0, x.block < W.heap.size := by obtain ⟨m, hm⟩ := k0; exact DataW.trod_lt m _ _ _ hm
  obtain ⟨A0_0, c0_0, l0_0, A0_1, c0_1, l0_1, A0_2, c0_2, l0_2, rfl, hr0_0, hc0_0, hr0_1, hc0_1, hr0_2, hc0_2⟩ := open_dfa (hval 0 25 v0 rfl rfl) h0
  obtain ⟨a1, rfl, rfl, rfl, y1⟩ := open_string Try.underlying9 (hval 1 9 v1 rfl rfl) h1
  have w1 : a1.size ≤ 140737488351232 := by
    have z := sized_string hsz (j := 1) (t := 9) rfl rfl
    rw [Array.length_toList] at z
    exact z
  obtain ⟨a2, rfl, rfl, rfl, y2⟩ := open_string Try.underlying9 (hval 2 9 v2 rfl rfl) h2
  have w2 : a2.size ≤ 140737488351232 := by
    have z := sized_string hsz (j := 2) (t := 9) rfl rfl
    rw [Array.length_toList] at z
    exact z
  clear hA0 hval0 hsz0
  obtain ⟨k, h⟩ := LexerAppend_pure l0_0 l0_1 l0_2 a1 a2 (rows_bound hr0_1) w1 w2
  refine (emendatelaw12_LexerAppend.calls k _ _ l0_0 _ _ l0_1 _ _ l0_2 a1 a2 true W hr0_0 hc0_0 hr0_1 hc0_1 hr0_2 hc0_2 h).mono fun e W' ⟨he, bel⟩ => ?_
  subst he
  exact ⟨_, rfl, _, _, _, [], _, [], hW', trodAll_mk1 (shut_bool Try.underlying4 _), (trodAll_cons_mk (Below.trod laidOut (by kernel_rfl) (of_decide_eq_true (by kernel_rfl)) k0 bel lt0) (trodAll_cons_mk (shut_string Try.underlying9 y1) (trodAll_cons_mk (shut_string Try.underlying9 y2) trodAll_mk0))), rfl, bel.frame _, fun h => by cases h⟩
theorem over : Rows.lexerAppendRow.holds Try.pinned (OpenSpec.ofChange Rows.lexerAppendSpec) :=
  OpenClaim.holds_of_wide 9 Try.f9 rfl rfl rfl rfl rfl rfl rfl ⟨rfl, rfl, rfl, rfl, rfl⟩ rfl rfl rfl rfl rfl (by kernel_rfl) Try.func9 (by kernel_rfl)
    (of_decide_eq_true (by kernel_rfl)) (by unfold Func.isWrapper; first | (rw [if_pos (by decide +kernel)]; kernel_rfl) | (rw [if_neg (by decide +kernel)]; exact ⟨rfl, rfl⟩))
    (fun os started H enc _ => lifted os started H enc)
theorem proved : Rows.LexerAppendSaid := over
#print axioms proved
end Go.Proofs.Ytepjegfhlglajaa.LexerAppendRow
namespace Go.Proofs.Ytepjegfhlglajaa
/-- The row, under a short name, for the claim. -/
theorem lexerAppend_holds : Rows.LexerAppendSaid := LexerAppendRow.proved
end Go.Proofs.Ytepjegfhlglajaa
