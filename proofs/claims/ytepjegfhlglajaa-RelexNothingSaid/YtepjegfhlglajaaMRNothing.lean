/- An edit that neither deletes nor inserts anything, and one that replaces a piece of the text by itself, leave all tokens unchanged. No condition: the law's own guard bounds the text. -/
import Derived.Test.YtepjegfhlglajaaRows
import Derived.Test.YtepjegfhlglajaaMQOpen
import Derived.Test.YtepjegfhlglajaaMQOpenC
import Derived.Test.YtepjegfhlglajaaMQRelexG
import Derived.Test.YtepjegfhlglajaaMQF8
import Derived.Below
import Derived.ChangeOld
import Derived.OpenShut
import Derived.ProofKit
import Derived.ShutString
import Derived.SizedLaws
import Derived.WalkKit
namespace Go.Proofs.Ytepjegfhlglajaa.Q
set_option linter.unusedVariables false
open Go.RowKit Go.Proofs.YtepjegfhlglajaaW.PrintWords Go.Proofs.YtepjegfhlglajaaW.PrintLast Go.Proofs.YtepjegfhlglajaaW.PrintMore
theorem u8_bd {u : Int} (hu : (Lit.int .u8 u).wf = true) : 0 ≤ u ∧ u ≤ 255 := by
  have := hu
  simp only [Lit.wf, Bool.and_eq_true, decide_eq_true_eq] at this
  have h1 : IntKind.u8.min = 0 := by decide
  have h2 : IntKind.u8.max = 255 := by decide
  rw [h1, h2] at this
  omega
theorem tmod_nat {u m : Int} (h0 : 0 ≤ u) (hm : 0 < m) : ∃ A : Nat, Int.tmod u m = (A : Int) ∧ (A : Int) < m := by
  rw [Int.tmod_eq_emod_of_nonneg h0]
  obtain ⟨A, hA⟩ := Int.eq_ofNat_of_zero_le (Int.emod_nonneg u (by omega : m ≠ 0))
  exact ⟨A, hA, by rw [← hA]; exact Int.emod_lt_of_pos _ hm⟩
theorem nd5 (A D : Nat) (h : A + D ≤ 1000) : wrap64 ((A : Int) + (D : Int)) = ((A + D : Nat) : Int) := by rw [wr _ (by omega) (by omega)]; omega
theorem nd6 (A D : Nat) (h : A + D ≤ 1000) : wrap64 (((A + D : Nat) : Int) - (A : Int)) = (D : Int) := by rw [wr _ (by omega) (by omega)]; omega
theorem pq_eq {p q D : Nat} (h : (p : Int) = q + ((D : Int) - D)) : p = q := by omega
theorem edt_none (s : ByteArray) (A : Nat) (h : A ≤ s.size) : edt s A 0 ⟨#[]⟩ = s := by
  apply L_inj
  rw [L_edt]
  show (L s).take A ++ ([] ++ (L s).drop (A + 0)) = L s
  rw [List.nil_append, Nat.add_zero, List.take_append_drop]
theorem edt_self (s : ByteArray) (A D : Nat) (h : A + D ≤ s.size) : edt s A D (s.extract A (A + D)) = s := by
  apply L_inj
  rw [L_edt, L_extract, Nat.add_sub_cancel_left, ← List.drop_drop, List.take_append_drop, List.take_append_drop]
theorem RelexNothing_pure (c : List Int) (n : List (List Int)) (a : List Int) (s : ByteArray) (u0 u1 : Int) (hrows : ∀ s : Int, 0 ≤ s → s < (n.length : Int) → (rd_L3 n s).length ≤ 9223372036854775807) (_ : s.size ≤ 140737488351232) (hu : (Lit.int .u8 u0).wf = true ∧ (Lit.int .u8 u1).wf = true) :
    ∃ k, emendatelaw13_RelexNothing.f k c n a s u0 u1 = some true := by
  have hj0 : Ev (fun k => emendatelaw13_RelexNothing.j0 k s true c n a u0 u1) true := by
    refine Ev.step (f := fun k => (emendatelaw13_awake.f k).bind fun t => some t) (fun k => ?_) awake_some
    simp only [emendatelaw13_RelexNothing.j0]
    rw [if_pos trivial]
  refine Ev.rounds (g := fun k => emendatelaw13_RelexNothing.f k c n a s u0 u1) ?_
  obtain ⟨b, h1, h2⟩ := small_ev (c := c) (a := a) hrows
  refine Ev.bind h1 ?_
  cases b with
  | false => exact Ev.congr (fun k => if_neg (by simp)) hj0
  | true =>
    have hv := h2 rfl
    by_cases hs0 : (s.size : Int) > 100
    · exact Ev.congr (fun k => by rw [if_pos rfl, decide_eq_true hs0]) hj0
    · have hs : s.size ≤ 100 := by omega
      obtain ⟨b0, b1⟩ := u8_bd hu.1
      obtain ⟨d0, d1⟩ := u8_bd hu.2
      have e0 : wrap64 u0 = u0 := wr _ (by omega) (by omega)
      have e1 : wrap64 u1 = u1 := wr _ (by omega) (by omega)
      have e2 : wrap64 ((s.size : Int) + 1) = (s.size : Int) + 1 := wr _ (by omega) (by omega)
      obtain ⟨A, hA, hA2⟩ := tmod_nat b0 (show (0 : Int) < (s.size : Int) + 1 by omega)
      have e3 : wrap64 ((s.size : Int) - (A : Int)) = (s.size : Int) - A := wr _ (by omega) (by omega)
      have e4 : wrap64 ((s.size : Int) - (A : Int) + 1) = (s.size : Int) - A + 1 := wr _ (by omega) (by omega)
      obtain ⟨D, hD, hD2⟩ := tmod_nat d0 (show (0 : Int) < (s.size : Int) - A + 1 by omega)
      have hAD : A + D ≤ s.size := by clear hA hD e0 e1 e2 e3 e4; omega
      have hAD4 : A + D ≤ 1000 := Nat.le_trans hAD (Nat.le_trans hs (by decide))
      have e5 := nd5 A D hAD4
      have e6 := nd6 A D hAD4
      have g1 : ¬ ((s.size : Int) + 1 = 0) := by clear hA hD e0 e1 e2 e3 e4 e5 e6; omega
      have g2 : ¬ ((s.size : Int) - (A : Int) + 1 = 0) := by clear hA hD e0 e1 e2 e3 e4 e5 e6; omega
      have g3 : (0 : Int) ≤ (A : Int) := Int.natCast_nonneg A
      have g4 : (A : Int) ≤ ((A + D : Nat) : Int) := Int.ofNat_le.2 (Nat.le_add_right A D)
      have g5 : ((A + D : Nat) : Int) ≤ (s.size : Int) := Int.ofNat_le.2 hAD
      have q1 : s.size ≤ 1000 := Nat.le_trans hs (by decide)
      have q2 : (⟨#[]⟩ : ByteArray).size ≤ 500 := by decide
      have q3 : A + 0 ≤ s.size := Nat.le_trans (Nat.le_add_right A D) hAD
      have q4 : (s.extract A (A + D)).size ≤ 500 := by rw [ext_sz _ _ _ hAD]; clear hA hD e0 e1 e2 e3 e4 e5 e6; omega
      have q5 : s.size ≤ 3000 := Nat.le_trans hs (by decide)
      have q6 : A ≤ s.size := q3
      obtain ⟨fr, i, j, p, q, U, u1', _⟩ := Update_ev hv s ⟨#[]⟩ A 0 q1 q2 q3
      obtain ⟨fr', i', j', p', q', U', v1, _⟩ := Update_ev hv s (s.extract A (A + D)) A D q1 q4 hAD
      rw [edt_none s A q6] at u1'
      have hij : (j' : Int) - fr' = (i' : Int) - fr' := by
        have hct := U'.ct
        have he := U'.he
        rw [edt_self s A D hAD] at hct
        rw [ext_sz _ _ _ hAD, Nat.add_sub_cancel_left] at he
        have hpq : p' = q' := pq_eq he
        subst hpq
        have h3 := cur_mono hct U'.cs
        have h4 := cur_mono U'.cs hct
        have : i' = j' := by
          apply Nat.le_antisymm
          · apply Nat.le_of_not_lt; intro h; exact Nat.lt_irrefl _ (h4.1 h)
          · apply Nat.le_of_not_lt; intro h; exact Nat.lt_irrefl _ (h3.1 h)
        rw [this]
      rw [edt_self s A D hAD] at v1
      have hls := Nat.le_trans (mod_lxs (c := c) (n := n) (a := a) q5).1 (show (4000 : Nat) ≤ 5000 by decide)
      clear U U'
      refine Ev.congr (f := fun k => emendatelaw13_RelexNothing.j0 k s false c n a u0 u1) (fun k => by rw [if_pos rfl, decide_eq_false hs0]) ?_
      refine Ev.step (f := fun k => (emendateref12_Lex.f k c n a s).bind fun t460 => ((relex_Update.f k c n a t460 (A : Int) 0 (⟨#[]⟩ : ByteArray)).bind fun bt463 => ((relex_Update.f k c n a t460 (A : Int) (D : Int) (s.extract A (A + D))).bind fun bt471 => ((emendatelaw13_awake.f k).bind fun t479 => (if t479 = true then (if bt463.2.2.2.2 = 0 then (if bt471.2.2.2.2 = 0 then ((emendateref13_Same.f k bt463.1 t460).bind fun t480 => (if t480 = true then ((emendateref13_Same.f k bt471.1 t460).bind fun t481 => (if t481 = true then (some (bt471.2.2.1 == bt471.2.2.2.1)) else (some false))) else (some false))) else (some false)) else (some false)) else (some false)))))) (fun k => ?_) (Ev.bind (rLexs_ev hv s q5) (Ev.bind u1' (Ev.bind v1 (behind_awake13 ?_))))
      · simp only [emendatelaw13_RelexNothing.j0]
        rw [if_neg (by simp), e0, e2, hA, e3, e4, e1, hD, e5, e6]
        simp only [if_neg g1, if_neg g2, if_pos g3, if_pos g4, if_pos g5, Int.toNat_natCast]
      · have hsame := Same13_ev (l := lxs c n a s) rfl hls
        refine Ev.congr (f := fun k => (emendateref13_Same.f k (lxs c n a s) (lxs c n a s)).bind fun t480 => (if t480 = true then ((emendateref13_Same.f k (lxs c n a s) (lxs c n a s)).bind fun t481 => (if t481 = true then (some (((j' : Int) - fr') == ((i' : Int) - fr'))) else (some false))) else (some false))) (fun k => by rw [if_pos rfl, if_pos rfl]) (Ev.bind hsame ?_)
        refine Ev.congr (f := fun k => (emendateref13_Same.f k (lxs c n a s) (lxs c n a s)).bind fun t481 => (if t481 = true then (some (((j' : Int) - fr') == ((i' : Int) - fr'))) else (some false))) (fun k => if_pos rfl) (Ev.bind hsame ?_)
        refine Ev.congr (f := fun _ => some true) (fun k => ?_) (Ev.now true)
        rw [if_pos rfl, hij, beq_self_eq_true]
end Go.Proofs.Ytepjegfhlglajaa.Q
namespace Go.Proofs.Ytepjegfhlglajaa.RelexNothingRow
open Go.ChangeShapes Go.WideShapes Go.ChangeAt Go.RowKit Go.Proofs.Ytepjegfhlglajaa.Q Go.Proofs.YtepjegfhlglajaaW.PrintWords Go.Proofs.YtepjegfhlglajaaW.PrintLast Go.Proofs.YtepjegfhlglajaaW.PrintMore
open Go.ChangeMaps (open_string shut_string)
set_option linter.unusedVariables false
theorem own : ownKnob Try.prog.godebug = none := by kernel_rfl
theorem laidOut : laidOutB Try.prog = true := by kernel_rfl
set_option maxRecDepth 100000 in
theorem lifted (os : Os) (started : os.Started) (H : Type) (enc : TypeId × Value → H) :
    ReturnsInHanded {} Try.checked os 8 .any (Rows.relexNothingSpec.pre6 enc Try.prog Try.f8 Rows.relexNothingRow.domain false) (Rows.relexNothingSpec.post enc Try.prog Try.f8 false true false false) := by
  refine returnsInHanded_of_change_sized (C := Try.checked) own started (by kernel_rfl) Try.func8
    (ChangeSpec.witness6 (enc := enc) (C := Try.checked) false ⟨#[], #[.agg #[.slice none 0 0, .slice none 0 0, .slice none 0 0], .string ByteArray.empty, .agg #[.int .u8 0, .int .u8 0]], []⟩ 8 (by kernel_rfl) (by kernel_rfl) (by kernel_rfl) (by kernel_rfl)) ?_
  intro W base args ds gs before hval0 hW hcnd hsz0 _
  have hsz : (DataW.weightsEach Try.prog (Try.f8.params.toList ++ Rows.relexNothingSpec.plain.varTypes Try.prog) (ds ++ gs)).all (· ≤ reachBytes) = true := hsz0
  have hval : ∀ (j : Nat) t v, Try.f8.params[j]? = some t → args[j]? = some v → Value.okWide Try.prog W .any base t v := hval0
  have hW' := hW
  obtain ⟨p, q, hA0, hV, rfl, hfz, hnd⟩ := hW
  have hA : DataW.TrodAll enc Try.prog W 0 (fun _ => true) true Try.f8.params.toList args.toList ds p := hA0
  rw [Try.params8] at hA hval hsz
  obtain ⟨v0, vs0, d0, ds0, p0, q0, hargs, rfl, rfl, h0, r0⟩ := trodAll_cons hA
  obtain ⟨v1, vs1, d1, ds1, p1, q1, rfl, rfl, rfl, h1, r1⟩ := trodAll_cons r0
  obtain ⟨v2, vs2, d2, ds2, p2, q2, rfl, rfl, rfl, h2, r2⟩ := trodAll_cons r1
  obtain ⟨rfl, rfl, rfl⟩ := trodAll_nil r2
  obtain rfl : args = #[v0, v1, v2] := by cases args; simp_all
  obtain ⟨rfl, rfl⟩ := trodVars_none hV
  have k0 := h0
  have lt0 : ∀ x ∈ p0, x.block < W.heap.size := by obtain ⟨m, hm⟩ := k0; exact DataW.trod_lt m _ _ _ hm
  obtain ⟨A0_0, c0_0, l0_0, A0_1, c0_1, l0_1, A0_2, c0_2, l0_2, rfl, hr0_0, hc0_0, hr0_1, hc0_1, hr0_2, hc0_2⟩ := open_dfa (hval 0 25 v0 rfl rfl) h0
  obtain ⟨a1, rfl, rfl, rfl, y1⟩ := open_string Try.underlying9 (hval 1 9 v1 rfl rfl) h1
  have w1 : a1.size ≤ 140737488351232 := by
    have z := sized_string hsz (j := 1) (t := 9) rfl rfl
    rw [Array.length_toList] at z
    exact z
  have k2 := h2
  have lt2 : ∀ x ∈ p2, x.block < W.heap.size := by obtain ⟨m, hm⟩ := k2; exact DataW.trod_lt m _ _ _ hm
  have sz2 := sized_arg hsz (j := 2) (t := 37) rfl rfl
  obtain ⟨a2_0, a2_1, rfl, w2⟩ := open_u8pair (hval 2 37 v2 rfl rfl) h2
  clear hA0 hval0 hsz0
  obtain ⟨k, h⟩ := RelexNothing_pure l0_0 l0_1 l0_2 a1 a2_0 a2_1 (rows_bound hr0_1) w1 (w2 sz2)
  refine (emendatelaw13_RelexNothing.calls k _ _ l0_0 _ _ l0_1 _ _ l0_2 a1 a2_0 a2_1 true W hr0_0 hc0_0 hr0_1 hc0_1 hr0_2 hc0_2 h).mono fun e W' ⟨he, bel⟩ => ?_
  subst he
  exact ⟨_, rfl, _, _, _, [], _, [], hW', trodAll_mk1 (shut_bool Try.underlying4 _), (trodAll_cons_mk (Below.trod laidOut (by kernel_rfl) (of_decide_eq_true (by kernel_rfl)) k0 bel lt0) (trodAll_cons_mk (shut_string Try.underlying9 y1) (trodAll_cons_mk (Below.trod laidOut (by kernel_rfl) (of_decide_eq_true (by kernel_rfl)) k2 bel lt2) trodAll_mk0))), rfl, bel.frame _, fun h => by cases h⟩
theorem over : Rows.relexNothingRow.holds Try.pinned (OpenSpec.ofChange Rows.relexNothingSpec) :=
  OpenClaim.holds_of_wide 8 Try.f8 rfl rfl rfl rfl rfl rfl rfl ⟨rfl, rfl, rfl, rfl, rfl⟩ rfl rfl rfl rfl rfl (by kernel_rfl) Try.func8 (by kernel_rfl)
    (of_decide_eq_true (by kernel_rfl)) (by unfold Func.isWrapper; first | (rw [if_pos (by decide +kernel)]; kernel_rfl) | (rw [if_neg (by decide +kernel)]; exact ⟨rfl, rfl⟩))
    (fun os started H enc _ => lifted os started H enc)
theorem proved : Rows.RelexNothingSaid := over
#print axioms proved
end Go.Proofs.Ytepjegfhlglajaa.RelexNothingRow
namespace Go.Proofs.Ytepjegfhlglajaa
/-- The row, under a short name, for the claim. -/
theorem relexNothing_holds : Rows.RelexNothingSaid := RelexNothingRow.proved
end Go.Proofs.Ytepjegfhlglajaa
