/- An edit followed by its inverse restores all tokens. No condition: the law's own guard bounds the text. -/
import Derived.Test.YtepjegfhlglajaaRows
import Derived.Test.YtepjegfhlglajaaKQOpen
import Derived.Test.YtepjegfhlglajaaKQOpenB
import Derived.Test.YtepjegfhlglajaaKQRelexG
import Derived.Test.YtepjegfhlglajaaKQF10
import Derived.Below
import Derived.ChangeOld
import Derived.OpenShut
import Derived.ProofKit
import Derived.ShutString
import Derived.SizedLaws
import Derived.WalkKit
namespace Go.Proofs.Ytepjegfhlglajaa.Q
set_option linter.unusedVariables false
open Go.RowKit Go.Proofs.YtepjegfhlglajaaW.PrintWords Go.Proofs.YtepjegfhlglajaaW.PrintLast Go.Proofs.YtepjegfhlglajaaW.PrintMore
theorem fitsb_ev (s : ByteArray) (hs : s.size ≤ 5000) (x y : Int) (I : ByteArray) : ∃ b, emendateref01_Fits.f (s.size : Int) x y I = some b ∧ (b = true → fitsP s.size x y) := by
  by_cases h : fitsP s.size x y
  · exact ⟨true, ((fits_f s.size hs x y I).1 h).2, fun _ => h⟩
  · exact ⟨false, ((fits_f s.size hs x y I).2 h).2, by simp⟩
/-- The inverse edit gives the old text back. -/
theorem edt_back (s I : ByteArray) (A D : Nat) (h : A + D ≤ s.size) : edt (edt s A D I) A I.size (s.extract A (A + D)) = s := by
  apply L_inj
  rw [L_edt, edt_drop s A D I h, ← edt_take s A D I h, L_extract, Nat.add_sub_cancel_left]
  rw [← List.drop_drop, List.take_append_drop, List.take_append_drop]
theorem RelexUndone_pure (c : List Int) (n : List (List Int)) (a : List Int) (s : ByteArray) (x y : Int) (I : ByteArray) (hrows : ∀ s : Int, 0 ≤ s → s < (n.length : Int) → (rd_L3 n s).length ≤ 9223372036854775807) (_ : s.size ≤ 140737488351232 ∧ EditOk ⟨x, y, I⟩) :
    ∃ k, emendatelaw13_RelexUndone.f k c n a s x y I = some true := by
  have hj0 : Ev (fun k => emendatelaw13_RelexUndone.j0 k true c n a s x y I) true := by
    refine Ev.step (f := fun k => (emendatelaw13_awake.f k).bind fun t => some t) (fun k => ?_) awake_some
    simp only [emendatelaw13_RelexUndone.j0]
    rw [if_pos trivial]
  refine Ev.rounds (g := fun k => emendatelaw13_RelexUndone.f k c n a s x y I) ?_
  obtain ⟨b, h1, h2⟩ := may_ev (c := c) (a := a) hrows s x y I
  refine Ev.bind h1 ?_
  cases b with
  | false => exact Ev.congr (fun k => if_neg (by simp)) hj0
  | true =>
    obtain ⟨hv, hs, hI⟩ := h2 rfl
    obtain ⟨fb, f1, f2⟩ := fitsb_ev s (by omega) x y I
    refine Ev.congr (f := fun k => emendatelaw13_RelexUndone.j0 k (!fb) c n a s x y I) (fun k => by rw [if_pos rfl, f1]; rfl) ?_
    cases fb with
    | false => exact hj0
    | true =>
      obtain ⟨A, D, rfl, rfl, hAD⟩ := fits_nat (f2 rfl)
      have hsz := edt_size s A D I hAD
      have hx := ext_sz s A (A + D) hAD
      have q1 : (edt s A D I).size ≤ 1000 := by omega
      have q2 : A + I.size ≤ (edt s A D I).size := by omega
      have q3 : (s.extract A (A + D)).size ≤ 500 := by omega
      have q4 : (edt s A D I).size ≤ 2000 := by omega
      have q5 : s.size ≤ 3000 := by omega
      have w1 : wrap64 ((A : Int) + (D : Int)) = ((A + D : Nat) : Int) := by rw [wr _ (by omega) (by omega)]; omega
      have w2 : (A : Int) ≤ ((A + D : Nat) : Int) := by omega
      have w3 : ((A + D : Nat) : Int) ≤ (s.size : Int) := by omega
      have q6 : (edt s A D I).size ≤ 3000 := by omega
      have q7 : I.size ≤ 500 := by omega
      have q8 : s.size ≤ 1000 := by omega
      obtain ⟨fr, i, j, p, q, U, u1, u2⟩ := Update_ev hv s I A D q8 q7 hAD
      obtain ⟨fr', i', j', p', q', U', v1, v2⟩ := Update_ev hv (edt s A D I) (s.extract A (A + D)) A I.size q1 q3 q2
      rw [edt_back s I A D hAD] at v1
      clear U U' u2 v2 hsz hx
      have hlt := (mod_lxs (c := c) (n := n) (a := a) q6).1
      have hls := (mod_lxs (c := c) (n := n) (a := a) q5).1
      have hj1 : Ev (fun k => emendatelaw13_RelexUndone.j1 k (lxs c n a s) (lxs c n a (edt s A D I)) false c n a s (A : Int) (D : Int) I) true := by
        refine Ev.step (f := fun k => (relex_Update.f k c n a (lxs c n a (edt s A D I)) (A : Int) (I.size : Int) (s.extract A (A + D))).bind fun bt506 => ((emendatelaw13_awake.f k).bind fun t514 => (if t514 = true then (if bt506.2.2.2.2 = 0 then ((emendateref13_Same.f k bt506.1 (lxs c n a s)).bind fun t515 => (some t515)) else (some false)) else (some false)))) (fun k => ?_) (Ev.bind v1 (behind_awake13 ?_))
        · simp only [emendatelaw13_RelexUndone.j1]
          rw [if_neg (by simp), if_pos (Int.natCast_nonneg A), w1, if_pos w2, if_pos w3, Int.toNat_natCast, Int.toNat_natCast]
        · refine Ev.congr (fun k => ?_) (Ev.bind (Same13_ev (l := lxs c n a s) rfl (Nat.le_trans hls (by decide))) (Ev.now true))
          rw [if_pos rfl]
      refine Ev.step (f := fun k => (emendateref12_Lex.f k c n a s).bind fun t490 => ((relex_Update.f k c n a t490 (A : Int) (D : Int) I).bind fun bt493 => (if bt493.2.2.2.2 = 0 then ((emendateref13_Text.f k bt493.1).bind fun t501 => ((emendateref12_Lex.f k c n a t501).bind fun t502 => ((emendateref13_Same.f k bt493.1 t502).bind fun t505 => (emendatelaw13_RelexUndone.j1 k t490 bt493.1 (!t505) c n a s (A : Int) (D : Int) I)))) else (emendatelaw13_RelexUndone.j1 k t490 bt493.1 true c n a s (A : Int) (D : Int) I)))) (fun k => ?_) (Ev.bind (rLexs_ev hv s q5) (Ev.bind u1 ?_))
      · simp only [emendatelaw13_RelexUndone.j0]
        rw [if_neg (by simp)]
      · refine Ev.congr (fun k => if_pos rfl) (Ev.bind (text13_ev (c := c) (n := n) (a := a) (edt s A D I) q4) (Ev.bind (rLexs_ev hv (edt s A D I) q6) (Ev.bind (Same13_ev (l := lxs c n a (edt s A D I)) rfl (Nat.le_trans hlt (by decide))) ?_)))
        exact hj1
end Go.Proofs.Ytepjegfhlglajaa.Q
namespace Go.Proofs.Ytepjegfhlglajaa.RelexUndoneRow
open Go.ChangeShapes Go.WideShapes Go.ChangeAt Go.RowKit Go.Proofs.Ytepjegfhlglajaa.Q Go.Proofs.YtepjegfhlglajaaW.PrintWords Go.Proofs.YtepjegfhlglajaaW.PrintLast Go.Proofs.YtepjegfhlglajaaW.PrintMore
open Go.ChangeMaps (open_string shut_string)
set_option linter.unusedVariables false
theorem own : ownKnob Try.prog.godebug = none := by kernel_rfl
theorem laidOut : laidOutB Try.prog = true := by kernel_rfl
set_option maxRecDepth 100000 in
theorem lifted (os : Os) (started : os.Started) (H : Type) (enc : TypeId × Value → H) :
    ReturnsInHanded {} Try.checked os 10 .any (Rows.relexUndoneSpec.pre6 enc Try.prog Try.f10 Rows.relexUndoneRow.domain false) (Rows.relexUndoneSpec.post enc Try.prog Try.f10 false true false false) := by
  refine returnsInHanded_of_change_sized (C := Try.checked) own started (by kernel_rfl) Try.func10
    (ChangeSpec.witness6 (enc := enc) (C := Try.checked) false ⟨#[], #[.agg #[.slice none 0 0, .slice none 0 0, .slice none 0 0, .string ByteArray.empty, .int .i64 0, .int .i64 0, .string ByteArray.empty]], []⟩ 8 (by kernel_rfl) (by kernel_rfl) (by kernel_rfl) (by kernel_rfl)) ?_
  intro W base args ds gs before hval0 hW hcnd hsz0 _
  have hsz : (DataW.weightsEach Try.prog (Try.f10.params.toList ++ Rows.relexUndoneSpec.plain.varTypes Try.prog) (ds ++ gs)).all (· ≤ reachBytes) = true := hsz0
  have hval : ∀ (j : Nat) t v, Try.f10.params[j]? = some t → args[j]? = some v → Value.okWide Try.prog W .any base t v := hval0
  have hW' := hW
  obtain ⟨p, q, hA0, hV, rfl, hfz, hnd⟩ := hW
  have hA : DataW.TrodAll enc Try.prog W 0 (fun _ => true) true Try.f10.params.toList args.toList ds p := hA0
  rw [Try.params10] at hA hval hsz
  obtain ⟨v0, vs0, d0, ds0, p0, q0, hargs, rfl, rfl, h0, r0⟩ := trodAll_cons hA
  obtain ⟨rfl, rfl, rfl⟩ := trodAll_nil r0
  obtain rfl : args = #[v0] := by cases args; simp_all
  obtain ⟨rfl, rfl⟩ := trodVars_none hV
  have k0 := h0
  have lt0 : ∀ x ∈ p0, x.block < W.heap.size := by obtain ⟨m, hm⟩ := k0; exact DataW.trod_lt m _ _ _ hm
  have sz0 := sized_arg hsz (j := 0) (t := 48) rfl rfl
  obtain ⟨A0_0, c0_0, l0_0, A0_1, c0_1, l0_1, A0_2, c0_2, l0_2, a0_3, a0_4, a0_5, a0_6, rfl, hr0_0, hc0_0, hr0_1, hc0_1, hr0_2, hc0_2, w0⟩ := open_ask (hval 0 48 v0 rfl rfl) h0
  clear hA0 hval0 hsz0
  obtain ⟨k, h⟩ := RelexUndone_pure l0_0 l0_1 l0_2 a0_3 a0_4 a0_5 a0_6 (rows_bound hr0_1) (w0 sz0)
  refine (emendatelaw13_RelexUndone.calls k _ _ l0_0 _ _ l0_1 _ _ l0_2 a0_3 a0_4 a0_5 a0_6 true W hr0_0 hc0_0 hr0_1 hc0_1 hr0_2 hc0_2 h).mono fun e W' ⟨he, bel⟩ => ?_
  subst he
  exact ⟨_, rfl, _, _, _, [], _, [], hW', trodAll_mk1 (shut_bool Try.underlying4 _), (trodAll_cons_mk (Below.trod laidOut (by kernel_rfl) (of_decide_eq_true (by kernel_rfl)) k0 bel lt0) trodAll_mk0), rfl, bel.frame _, fun h => by cases h⟩
theorem over : Rows.relexUndoneRow.holds Try.pinned (OpenSpec.ofChange Rows.relexUndoneSpec) :=
  OpenClaim.holds_of_wide 10 Try.f10 rfl rfl rfl rfl rfl rfl rfl ⟨rfl, rfl, rfl, rfl, rfl⟩ rfl rfl rfl rfl rfl (by kernel_rfl) Try.func10 (by kernel_rfl)
    (of_decide_eq_true (by kernel_rfl)) (by unfold Func.isWrapper; first | (rw [if_pos (by decide +kernel)]; kernel_rfl) | (rw [if_neg (by decide +kernel)]; exact ⟨rfl, rfl⟩))
    (fun os started H enc _ => lifted os started H enc)
theorem proved : Rows.RelexUndoneSaid := over
#print axioms proved
end Go.Proofs.Ytepjegfhlglajaa.RelexUndoneRow
namespace Go.Proofs.Ytepjegfhlglajaa
/-- The row, under a short name, for the claim. -/
theorem relexUndone_holds : Rows.RelexUndoneSaid := RelexUndoneRow.proved
end Go.Proofs.Ytepjegfhlglajaa
