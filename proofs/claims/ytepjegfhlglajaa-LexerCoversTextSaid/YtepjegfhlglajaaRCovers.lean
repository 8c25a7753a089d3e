/- The tokens of a text are not empty, follow one another without gaps and cover it: for every automaton and text the law LexerCoversText returns true, and its arguments read as before. No condition. -/
import Derived.Test.YtepjegfhlglajaaRows
import Derived.Test.YtepjegfhlglajaaQOpen
import Derived.Test.YtepjegfhlglajaaQMathB
import Derived.Test.YtepjegfhlglajaaQEvalC
import Derived.Test.YtepjegfhlglajaaQF4
import Derived.WalkKit
import Derived.ProofKit
import Derived.OpenShut
import Derived.ShutString
import Derived.ChangeOld
import Derived.Below
import Derived.SizedLaws
namespace Go.Proofs.Ytepjegfhlglajaa.Q
set_option linter.unusedVariables false
open Go.RowKit Go.Proofs.YtepjegfhlglajaaW.PrintWords Go.Proofs.YtepjegfhlglajaaW.PrintLast Go.Proofs.YtepjegfhlglajaaW.PrintMore
theorem covers_l0 {c : List Int} {n : List (List Int)} {a : List Int} {s : ByteArray} (hs : s.size ≤ 1048576) {l : List S32} (hl : l.length ≤ 1048576) (hcat : cat l = L s) : ∀ (m i off : Nat), s.size - off ≤ m → Cur c n a s l i off → Ev (fun k => emendatelaw12_LexerCoversText.l0 k s l off i) true := by
  have hend : ∀ (i off : Nat), Cur c n a s l i off → off = s.size → Ev (fun k => emendatelaw12_LexerCoversText.l0 k s l off i) true := by
    intro i off h he
    have hi := cur_end h he
    have ht := Text_ev l hl (by rw [hcat, L_length]; omega)
    rw [hcat, S_L] at ht
    refine Ev.step (f := fun k => (lexer_Text.f k l).bind fun t => some (t.toList == s.toList)) (fun k => ?_) (Ev.bind ht ?_)
    · simp only [emendatelaw12_LexerCoversText.l0]
      rw [if_neg (by omega), if_pos (by omega)]
    · exact Ev.congr (fun k => by rw [beq_self_eq_true]) (Ev.now true)
  intro m
  induction m with
  | zero => intro i off hm h; exact hend i off h (by have := h.1; omega)
  | succ m ih =>
    intro i off hm h
    by_cases he : off = s.size
    · exact hend i off h he
    · have hlt : off < s.size := by have := h.1; omega
      obtain ⟨h1, h2, h3⟩ := cur_step h hlt
      obtain ⟨t1, t2, t3, t4, t5⟩ := tko_len (c := c) (n := n) (a := a) hlt
      have hio := h.2.1
      refine Ev.step (f := fun k => emendatelaw12_LexerCoversText.l0 k s l ((off + (tko c n a s off).tx.length : Nat) : Int) ((i + 1 : Nat) : Int)) (fun k => ?_) (ih _ _ (by omega) h3)
      simp only [emendatelaw12_LexerCoversText.l0]
      rw [if_pos (by omega), if_pos (by omega), rdT_get h2]
      have e0 : (tko c n a s off).s.f1 = (off : Int) := rfl
      have e1 : (tko c n a s off).s.f2 = S (tko c n a s off).tx := rfl
      have e2 : (tko c n a s off).s.f3 = ((tko c n a s off).lk : Int) := rfl
      rw [e0, e1, e2, S_size, if_pos rfl, if_neg ?_, if_neg (by omega), wrap_id (x := (s.size : Int) - off) (by omega) (by omega), wrap_id (x := (s.size : Int) - off + 1) (by omega) (by omega), if_neg (by omega), wrap_id (by omega) (by omega), wrap_id (by omega) (by omega)]
      · norm_cast
      · rw [ByteArray.toList_eq]
        show ¬ (L (S _) = [])
        rw [L_S]
        intro h0
        rw [h0] at t1
        simp at t1
theorem LexerCoversText_pure (c : List Int) (n : List (List Int)) (a : List Int) (s : ByteArray) (hrows : ∀ s : Int, 0 ≤ s → s < (n.length : Int) → (rd_L3 n s).length ≤ 9223372036854775807) (_ : s.size ≤ 140737488351232) :
    ∃ k, emendatelaw12_LexerCoversText.f k c n a s = some true := by
  refine Ev.rounds (g := fun k => emendatelaw12_LexerCoversText.f k c n a s) (behind_awake (behind_light hrows (fun hv hs => ?_) (Ev.now true)))
  exact Ev.bind (Lex_ev hv s (by omega)) (covers_l0 (by omega) (lx_len c n a s (by omega)) (cat_lx _ _ _ (Nat.le_refl _)) s.size 0 0 (by omega) (cur_start s))
end Go.Proofs.Ytepjegfhlglajaa.Q
namespace Go.Proofs.Ytepjegfhlglajaa.LexerCoversTextRow
open Go.ChangeShapes Go.WideShapes Go.ChangeAt Go.RowKit Go.Proofs.Ytepjegfhlglajaa.Q Go.Proofs.YtepjegfhlglajaaW.PrintWords Go.Proofs.YtepjegfhlglajaaW.PrintLast Go.Proofs.YtepjegfhlglajaaW.PrintMore
open Go.ChangeMaps (open_string shut_string)
set_option linter.unusedVariables false
theorem own : ownKnob Try.prog.godebug = none := by kernel_rfl
theorem laidOut : laidOutB Try.prog = true := by kernel_rfl
set_option maxRecDepth 100000 in
theorem lifted (os : Os) (started : os.Started) (H : Type) (enc : TypeId × Value → H) :
    ReturnsInHanded {} Try.checked os 4 .any (Rows.lexerCoversTextSpec.pre6 enc Try.prog Try.f4 Rows.lexerCoversTextRow.domain false) (Rows.lexerCoversTextSpec.post enc Try.prog Try.f4 false true false false) := by
  refine returnsInHanded_of_change_sized (C := Try.checked) own started (by kernel_rfl) Try.func4
    (ChangeSpec.witness6 (enc := enc) (C := Try.checked) false ⟨#[], #[.agg #[.slice none 0 0, .slice none 0 0, .slice none 0 0], .string ByteArray.empty], []⟩ 8 (by kernel_rfl) (by kernel_rfl) (by kernel_rfl) (by kernel_rfl)) ?_
  intro W base args ds gs before hval0 hW hcnd hsz0 _
  have hsz : (DataW.weightsEach Try.prog (Try.f4.params.toList ++ Rows.lexerCoversTextSpec.plain.varTypes Try.prog) (ds ++ gs)).all (· ≤ reachBytes) = true := hsz0
  have hval : ∀ (j : Nat) t v, Try.f4.params[j]? = some t → args[j]? = some v → Value.okWide Try.prog W .any base t v := hval0
  have hW' := hW
  obtain ⟨p, q, hA0, hV, rfl, hfz, hnd⟩ := hW
  have hA : DataW.TrodAll enc Try.prog W 0 (fun _ => true) true Try.f4.params.toList args.toList ds p := hA0
  rw [Try.params4] at hA hval hsz
  obtain ⟨v0, vs0, d0, ds0, p0, q0, hargs, rfl, rfl, h0, r0⟩ := trodAll_cons hA
  obtain ⟨v1, vs1, d1, ds1, p1, q1, rfl, rfl, rfl, h1, r1⟩ := trodAll_cons r0
  obtain ⟨rfl, rfl, rfl⟩ := trodAll_nil r1
  obtain rfl : args = #[v0, v1] := by cases args; simp_all
  obtain ⟨rfl, rfl⟩ := trodVars_none hV
  have k0 := h0
  have lt0 : ∀ x ∈ p0, x.block < W.heap.size := by obtain ⟨m, hm⟩ := k0; exact DataW.trod_lt m _ _ _ hm
  obtain ⟨A0_0, c0_0, l0_0, A0_1, c0_1, l0_1, A0_2, c0_2, l0_2, rfl, hr0_0, hc0_0, hr0_1, hc0_1, hr0_2, hc0_2⟩ := open_dfa (hval 0 25 v0 rfl rfl) h0
  obtain ⟨a1, rfl, rfl, rfl, y1⟩ := open_string Try.underlying9 (hval 1 9 v1 rfl rfl) h1
  have w1 : a1.size ≤ 140737488351232 := by
    have z := sized_string hsz (j := 1) (t := 9) rfl rfl
    rw [Array.length_toList] at z
    exact z
  clear hA0 hval0 hsz0
  obtain ⟨k, h⟩ := LexerCoversText_pure l0_0 l0_1 l0_2 a1 (rows_bound hr0_1) w1
  refine (emendatelaw12_LexerCoversText.calls k _ _ l0_0 _ _ l0_1 _ _ l0_2 a1 true W hr0_0 hc0_0 hr0_1 hc0_1 hr0_2 hc0_2 h).mono fun e W' ⟨he, bel⟩ => ?_
  subst he
  exact ⟨_, rfl, _, _, _, [], _, [], hW', trodAll_mk1 (shut_bool Try.underlying4 _), (trodAll_cons_mk (Below.trod laidOut (by kernel_rfl) (of_decide_eq_true (by kernel_rfl)) k0 bel lt0) (trodAll_cons_mk (shut_string Try.underlying9 y1) trodAll_mk0)), rfl, bel.frame _, fun h => by cases h⟩
theorem over : Rows.lexerCoversTextRow.holds Try.pinned (OpenSpec.ofChange Rows.lexerCoversTextSpec) :=
  OpenClaim.holds_of_wide 4 Try.f4 rfl rfl rfl rfl rfl rfl rfl ⟨rfl, rfl, rfl, rfl, rfl⟩ rfl rfl rfl rfl rfl (by kernel_rfl) Try.func4 (by kernel_rfl)
    (of_decide_eq_true (by kernel_rfl)) (by unfold Func.isWrapper; first | (rw [if_pos (by decide +kernel)]; kernel_rfl) | (rw [if_neg (by decide +kernel)]; exact ⟨rfl, rfl⟩))
    (fun os started H enc _ => lifted os started H enc)
theorem proved : Rows.LexerCoversTextSaid := over
#print axioms proved
end Go.Proofs.Ytepjegfhlglajaa.LexerCoversTextRow
namespace Go.Proofs.Ytepjegfhlglajaa
/-- The row, under a short name, for the claim. -/
theorem lexerCoversText_holds : Rows.LexerCoversTextSaid := LexerCoversTextRow.proved
end Go.Proofs.Ytepjegfhlglajaa
