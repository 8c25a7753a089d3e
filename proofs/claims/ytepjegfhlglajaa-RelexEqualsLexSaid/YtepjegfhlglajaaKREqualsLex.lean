/- After any sequence of edits the updated tokens are those of the whole new text. No condition: the law's own guard bounds the text and the number of edits. -/
import Derived.Test.YtepjegfhlglajaaRows
import Derived.Test.YtepjegfhlglajaaKQOpen
import Derived.Test.YtepjegfhlglajaaKQOpenB
import Derived.Test.YtepjegfhlglajaaKQRelexG
import Derived.Test.YtepjegfhlglajaaKQF13
import Derived.Below
import Derived.ChangeOld
import Derived.OpenShut
import Derived.ProofKit
import Derived.ShutString
import Derived.SizedLaws
import Derived.WalkKit
namespace Go.Proofs.Ytepjegfhlglajaa.Q
set_option linter.unusedVariables false
open Go.RowKit Go.Proofs.YtepjegfhlglajaaW.PrintWords Go.Proofs.YtepjegfhlglajaaW.PrintLast Go.Proofs.YtepjegfhlglajaaW.PrintMore
theorem eq_l0 (c : List Int) (n : List (List Int)) (a : List Int) (hv : VD c n a) (es : List S45) (hl : es.length ≤ 12) (hok : ∀ e ∈ es, EditOk e) :
    ∀ (d i : Nat) (s : ByteArray), es.length - i ≤ d → i ≤ es.length → s.size ≤ 120 → Ev (fun k => emendatelaw13_RelexEqualsLex.l0 k s es (lxs c n a s) (i : Int) c n a) true := by
  have hend : ∀ (i : Nat) (s : ByteArray), i = es.length → Ev (fun k => emendatelaw13_RelexEqualsLex.l0 k s es (lxs c n a s) (i : Int) c n a) true := by
    intro i s he
    have g1 : ¬ (i : Int) < (es.length : Int) := by omega
    refine Ev.step (f := fun k => (emendatelaw13_awake.f k).bind fun t => some t) (fun k => ?_) awake_some
    simp only [emendatelaw13_RelexEqualsLex.l0]
    rw [if_neg g1]
  intro d
  induction d with
  | zero => intro i s h1 h2 _; exact hend i s (by omega)
  | succ d ih =>
    intro i s h1 h2 hs
    by_cases he : i = es.length
    · exact hend i s he
    · have hi : i < es.length := by omega
      have g1 : (i : Int) < (es.length : Int) := Int.ofNat_lt.2 hi
      have g2 : (0 : Int) ≤ (i : Int) := Int.natCast_nonneg i
      have g3 : wrap64 ((i : Int) + 1) = ((i + 1 : Nat) : Int) := by rw [wr _ (by omega) (by omega)]; omega
      have hn := fun s' hs' => ih (i + 1) s' (by omega) (by omega) hs'
      have hg : rd_T45 es (i : Int) = es[i] := by
        unfold rd_T45
        rw [Int.toNat_natCast, List.getD_eq_getElem?_getD, List.getElem?_eq_getElem hi]
        rfl
      obtain ⟨e, hee⟩ : ∃ e, es[i] = e := ⟨_, rfl⟩
      have hek := hok es[i] (List.getElem_mem hi)
      rw [hee] at hg hek
      have hw : wrap64 ((s.size : Int) + (e.f2.size : Int)) = (s.size : Int) + (e.f2.size : Int) := wrap_id (by omega) (by have := hek.2.2; omega)
      by_cases hb : (s.size : Int) + (e.f2.size : Int) > 120
      · refine Ev.step (f := fun k => (emendatelaw13_awake.f k).bind fun t => some t) (fun k => ?_) awake_some
        simp only [emendatelaw13_RelexEqualsLex.l0]
        rw [if_pos g1, if_pos g2, hg, hw, if_pos hb]
      · have hI : e.f2.size ≤ 500 := by omega
        have hs1 : s.size ≤ 1000 := by omega
        have hs5 : s.size ≤ 5000 := by omega
        by_cases hf : fitsP s.size e.f0 e.f1
        · obtain ⟨A, D, hA, hD, hAD⟩ := fits_nat hf
          have hsz := edt_size s A D e.f2 hAD
          have ht : (edt s A D e.f2).size ≤ 120 := by omega
          have ht3 : (edt s A D e.f2).size ≤ 3000 := by omega
          have happ := (apply_f s hs5 A D e.f2 (by omega) hAD).2
          obtain ⟨fr, i', j, p, q, U, u1, _⟩ := Update_ev hv s e.f2 A D hs1 hI hAD
          have hlt := Nat.le_trans (mod_lxs (c := c) (n := n) (a := a) ht3).1 (show (4000 : Nat) ≤ 5000 by decide)
          clear U
          refine Ev.step (f := fun k => (relex_Update.f k c n a (lxs c n a s) (A : Int) (D : Int) e.f2).bind fun bt571 => (if bt571.2.2.2.2 = 0 then (if bt571.2.2.2.2 = 0 then ((emendateref12_Lex.f k c n a (edt s A D e.f2)).bind fun t579 => ((emendateref13_Same.f k bt571.1 t579).bind fun t582 => (if t582 = true then (emendatelaw13_RelexEqualsLex.l0 k (edt s A D e.f2) es bt571.1 ((i + 1 : Nat) : Int) c n a) else (some false)))) else (emendatelaw13_RelexEqualsLex.l0 k s es (lxs c n a s) ((i + 1 : Nat) : Int) c n a)) else (some false))) (fun k => ?_) (Ev.bind u1 ?_)
          · simp only [emendatelaw13_RelexEqualsLex.l0]
            rw [if_pos g1, if_pos g2, hg, hw, if_neg hb, hA, hD, happ, g3]
            rfl
          · refine Ev.congr (f := fun k => (emendateref12_Lex.f k c n a (edt s A D e.f2)).bind fun t579 => ((emendateref13_Same.f k (lxs c n a (edt s A D e.f2)) t579).bind fun t582 => (if t582 = true then (emendatelaw13_RelexEqualsLex.l0 k (edt s A D e.f2) es (lxs c n a (edt s A D e.f2)) ((i + 1 : Nat) : Int) c n a) else (some false)))) (fun k => by rw [if_pos rfl, if_pos rfl]) (Ev.bind (rLexs_ev hv _ ht3) (Ev.bind (Same13_ev rfl hlt) ?_))
            exact Ev.congr (fun k => if_pos rfl) (hn _ ht)
        · have happ := (apply_no s hs5 e.f0 e.f1 e.f2 hf).2
          refine Ev.step (f := fun k => (relex_Update.f k c n a (lxs c n a s) e.f0 e.f1 e.f2).bind fun bt571 => (if bt571.2.2.2.2 = 2 then (if bt571.2.2.2.2 = 0 then ((emendateref12_Lex.f k c n a (⟨#[]⟩ : ByteArray)).bind fun t579 => ((emendateref13_Same.f k bt571.1 t579).bind fun t582 => (if t582 = true then (emendatelaw13_RelexEqualsLex.l0 k (⟨#[]⟩ : ByteArray) es bt571.1 ((i + 1 : Nat) : Int) c n a) else (some false)))) else (emendatelaw13_RelexEqualsLex.l0 k s es (lxs c n a s) ((i + 1 : Nat) : Int) c n a)) else (some false))) (fun k => ?_) (Ev.bind (Update_no s e.f2 e.f0 e.f1 hs1 hf) ?_)
          · simp only [emendatelaw13_RelexEqualsLex.l0]
            rw [if_pos g1, if_pos g2, hg, hw, if_neg hb, happ, g3]
            rfl
          · exact Ev.congr (fun k => by rw [if_pos rfl, if_neg (by decide)]) (hn s hs)
theorem RelexEqualsLex_pure (c : List Int) (n : List (List Int)) (a : List Int) (s : ByteArray) (es : List S45) (hrows : ∀ s : Int, 0 ≤ s → s < (n.length : Int) → (rd_L3 n s).length ≤ 9223372036854775807) (_ : s.size ≤ 140737488351232) (hok : ∀ e ∈ es, EditOk e) :
    ∃ k, emendatelaw13_RelexEqualsLex.f k c n a s es = some true := by
  have hj0 : Ev (fun k => emendatelaw13_RelexEqualsLex.j0 k s es true c n a) true := by
    refine Ev.step (f := fun k => (emendatelaw13_awake.f k).bind fun t => some t) (fun k => ?_) awake_some
    simp only [emendatelaw13_RelexEqualsLex.j0]
    rw [if_pos trivial]
  refine Ev.rounds (g := fun k => emendatelaw13_RelexEqualsLex.f k c n a s es) ?_
  obtain ⟨b, h1, h2⟩ := small_ev (c := c) (a := a) hrows
  refine Ev.bind h1 ?_
  cases b with
  | false => exact Ev.congr (fun k => if_neg (by simp)) hj0
  | true =>
    have hv := h2 rfl
    by_cases hs0 : (s.size : Int) > 80
    · exact Ev.congr (fun k => by rw [if_pos rfl, if_pos hs0]) hj0
    · by_cases hl0 : (es.length : Int) > 12
      · exact Ev.congr (fun k => by rw [if_pos rfl, if_neg hs0, decide_eq_true hl0]) hj0
      · refine Ev.congr (f := fun k => emendatelaw13_RelexEqualsLex.j0 k s es false c n a) (fun k => by rw [if_pos rfl, if_neg hs0, decide_eq_false hl0]) ?_
        refine Ev.step (f := fun k => (emendateref12_Lex.f k c n a s).bind fun t561 => (emendatelaw13_RelexEqualsLex.l0 k s es t561 ((0 : Nat) : Int) c n a)) (fun k => ?_) (Ev.bind (rLexs_ev hv s (by omega)) (eq_l0 c n a hv es (by omega) hok es.length 0 s (by omega) (by omega) (by omega)))
        simp only [emendatelaw13_RelexEqualsLex.j0]
        rw [if_neg (by simp)]
        rfl
end Go.Proofs.Ytepjegfhlglajaa.Q
namespace Go.Proofs.Ytepjegfhlglajaa.RelexEqualsLexRow
open Go.ChangeShapes Go.WideShapes Go.ChangeAt Go.RowKit Go.Proofs.Ytepjegfhlglajaa.Q Go.Proofs.YtepjegfhlglajaaW.PrintWords Go.Proofs.YtepjegfhlglajaaW.PrintLast Go.Proofs.YtepjegfhlglajaaW.PrintMore
open Go.ChangeMaps (open_string shut_string)
set_option linter.unusedVariables false
theorem own : ownKnob Try.prog.godebug = none := by kernel_rfl
theorem laidOut : laidOutB Try.prog = true := by kernel_rfl
set_option maxRecDepth 100000 in
theorem lifted (os : Os) (started : os.Started) (H : Type) (enc : TypeId × Value → H) :
    ReturnsInHanded {} Try.checked os 13 .any (Rows.relexEqualsLexSpec.pre6 enc Try.prog Try.f13 Rows.relexEqualsLexRow.domain false) (Rows.relexEqualsLexSpec.post enc Try.prog Try.f13 false true false false) := by
  refine returnsInHanded_of_change_sized (C := Try.checked) own started (by kernel_rfl) Try.func13
    (ChangeSpec.witness6 (enc := enc) (C := Try.checked) false ⟨#[], #[.agg #[.slice none 0 0, .slice none 0 0, .slice none 0 0], .string ByteArray.empty, .slice none 0 0], []⟩ 8 (by kernel_rfl) (by kernel_rfl) (by kernel_rfl) (by kernel_rfl)) ?_
  intro W base args ds gs before hval0 hW hcnd hsz0 _
  have hsz : (DataW.weightsEach Try.prog (Try.f13.params.toList ++ Rows.relexEqualsLexSpec.plain.varTypes Try.prog) (ds ++ gs)).all (· ≤ reachBytes) = true := hsz0
  have hval : ∀ (j : Nat) t v, Try.f13.params[j]? = some t → args[j]? = some v → Value.okWide Try.prog W .any base t v := hval0
  have hW' := hW
  obtain ⟨p, q, hA0, hV, rfl, hfz, hnd⟩ := hW
  have hA : DataW.TrodAll enc Try.prog W 0 (fun _ => true) true Try.f13.params.toList args.toList ds p := hA0
  rw [Try.params13] at hA hval hsz
  obtain ⟨v0, vs0, d0, ds0, p0, q0, hargs, rfl, rfl, h0, r0⟩ := trodAll_cons hA
  obtain ⟨v1, vs1, d1, ds1, p1, q1, rfl, rfl, rfl, h1, r1⟩ := trodAll_cons r0
  obtain ⟨v2, vs2, d2, ds2, p2, q2, rfl, rfl, rfl, h2, r2⟩ := trodAll_cons r1
  obtain ⟨rfl, rfl, rfl⟩ := trodAll_nil r2
  obtain rfl : args = #[v0, v1, v2] := by cases args; simp_all
  obtain ⟨rfl, rfl⟩ := trodVars_none hV
  have k0 := h0
  have lt0 : ∀ x ∈ p0, x.block < W.heap.size := by obtain ⟨m, hm⟩ := k0; exact DataW.trod_lt m _ _ _ hm
  obtain ⟨A0_0, c0_0, l0_0, A0_1, c0_1, l0_1, A0_2, c0_2, l0_2, rfl, hr0_0, hc0_0, hr0_1, hc0_1, hr0_2, hc0_2⟩ := open_dfa (hval 0 25 v0 rfl rfl) h0
  obtain ⟨a1, rfl, rfl, rfl, y1⟩ := open_string Try.underlying9 (hval 1 9 v1 rfl rfl) h1
  have w1 : a1.size ≤ 140737488351232 := by
    have z := sized_string hsz (j := 1) (t := 9) rfl rfl
    rw [Array.length_toList] at z
    exact z
  have k2 := h2
  have lt2 : ∀ x ∈ p2, x.block < W.heap.size := by obtain ⟨m, hm⟩ := k2; exact DataW.trod_lt m _ _ _ hm
  have sz2 := sized_arg hsz (j := 2) (t := 56) rfl rfl
  obtain ⟨A2, c2, l2, rfl, hr2, hc2, w2⟩ := open_edits (hval 2 56 v2 rfl rfl) h2
  clear hA0 hval0 hsz0
  obtain ⟨k, h⟩ := RelexEqualsLex_pure l0_0 l0_1 l0_2 a1 l2 (rows_bound hr0_1) w1 (w2 sz2)
  refine (emendatelaw13_RelexEqualsLex.calls k _ _ l0_0 _ _ l0_1 _ _ l0_2 a1 _ _ l2 true W hr0_0 hc0_0 hr0_1 hc0_1 hr0_2 hc0_2 hr2 hc2 h).mono fun e W' ⟨he, bel⟩ => ?_
  subst he
  exact ⟨_, rfl, _, _, _, [], _, [], hW', trodAll_mk1 (shut_bool Try.underlying4 _), (trodAll_cons_mk (Below.trod laidOut (by kernel_rfl) (of_decide_eq_true (by kernel_rfl)) k0 bel lt0) (trodAll_cons_mk (shut_string Try.underlying9 y1) (trodAll_cons_mk (Below.trod laidOut (by kernel_rfl) (of_decide_eq_true (by kernel_rfl)) k2 bel lt2) trodAll_mk0))), rfl, bel.frame _, fun h => by cases h⟩
theorem over : Rows.relexEqualsLexRow.holds Try.pinned (OpenSpec.ofChange Rows.relexEqualsLexSpec) :=
  OpenClaim.holds_of_wide 13 Try.f13 rfl rfl rfl rfl rfl rfl rfl ⟨rfl, rfl, rfl, rfl, rfl⟩ rfl rfl rfl rfl rfl (by kernel_rfl) Try.func13 (by kernel_rfl)
    (of_decide_eq_true (by kernel_rfl)) (by unfold Func.isWrapper; first | (rw [if_pos (by decide +kernel)]; kernel_rfl) | (rw [if_neg (by decide +kernel)]; exact ⟨rfl, rfl⟩))
    (fun os started H enc _ => lifted os started H enc)
theorem proved : Rows.RelexEqualsLexSaid := over
#print axioms proved
end Go.Proofs.Ytepjegfhlglajaa.RelexEqualsLexRow
namespace Go.Proofs.Ytepjegfhlglajaa
/-- The row, under a short name, for the claim. -/
theorem relexEqualsLex_holds : Rows.RelexEqualsLexSaid := RelexEqualsLexRow.proved
end Go.Proofs.Ytepjegfhlglajaa
