/- A token is part of the retained prefix only if its examined bytes end at or before the edit, and the first token that is not part of it examined a byte at the edit or the end of the text. No condition: the law's own guard bounds the text. -/
import Derived.Test.YtepjegfhlglajaaRows
import Derived.Test.YtepjegfhlglajaaKQOpen
import Derived.Test.YtepjegfhlglajaaKQOpenB
import Derived.Test.YtepjegfhlglajaaKQRelexG
import Derived.Test.YtepjegfhlglajaaKQF15
import Derived.Below
import Derived.ChangeOld
import Derived.OpenShut
import Derived.ProofKit
import Derived.ShutString
import Derived.SizedLaws
import Derived.WalkKit
namespace Go.Proofs.Ytepjegfhlglajaa.Q
set_option linter.unusedVariables false
open Go.RowKit Go.Proofs.YtepjegfhlglajaaW.PrintWords Go.Proofs.YtepjegfhlglajaaW.PrintLast Go.Proofs.YtepjegfhlglajaaW.PrintMore
theorem loc1 (z : Nat) (h : z ≤ 4000) : wrap64 ((z : Int) + 1) = ((z + 1 : Nat) : Int) := by rw [wr _ (by omega) (by omega)]; omega
theorem fitsb_ev (s : ByteArray) (hs : s.size ≤ 5000) (x y : Int) (I : ByteArray) : ∃ b, emendateref01_Fits.f (s.size : Int) x y I = some b ∧ (b = true → fitsP s.size x y) := by
  by_cases h : fitsP s.size x y
  · exact ⟨true, ((fits_f s.size hs x y I).1 h).2, fun _ => h⟩
  · exact ⟨false, ((fits_f s.size hs x y I).2 h).2, by simp⟩
theorem RelexPrefix_pure (c : List Int) (n : List (List Int)) (a : List Int) (s : ByteArray) (x y : Int) (I : ByteArray) (hrows : ∀ s : Int, 0 ≤ s → s < (n.length : Int) → (rd_L3 n s).length ≤ 9223372036854775807) (_ : s.size ≤ 140737488351232 ∧ EditOk ⟨x, y, I⟩) :
    ∃ k, emendatelaw13_RelexPrefix.f k c n a s x y I = some true := by
  have hj0 : Ev (fun k => emendatelaw13_RelexPrefix.j0 k true c n a s x y I) true := by
    refine Ev.step (f := fun k => (emendatelaw13_awake.f k).bind fun t => some t) (fun k => ?_) awake_some
    simp only [emendatelaw13_RelexPrefix.j0]
    rw [if_pos trivial]
  refine Ev.rounds (g := fun k => emendatelaw13_RelexPrefix.f k c n a s x y I) ?_
  obtain ⟨b, h1, h2⟩ := may_ev (c := c) (a := a) hrows s x y I
  refine Ev.bind h1 ?_
  cases b with
  | false => exact Ev.congr (fun k => if_neg (by simp)) hj0
  | true =>
    obtain ⟨hv, hs, hI⟩ := h2 rfl
    obtain ⟨fb, f1, f2⟩ := fitsb_ev s (by omega) x y I
    refine Ev.congr (f := fun k => emendatelaw13_RelexPrefix.j0 k (!fb) c n a s x y I) (fun k => by rw [if_pos rfl, f1]; rfl) ?_
    cases fb with
    | false => exact hj0
    | true =>
      obtain ⟨A, D, rfl, rfl, hAD⟩ := fits_nat (f2 rfl)
      obtain ⟨fr, i, j, p, q, U, u1, u2⟩ := Update_ev hv s I A D (by omega) (by omega) hAD
      have hM : Mod (lxs c n a s) := mod_lxs (by omega)
      have hML := hM.1
      have hfj := U.fj
      have hjl := U.cs.2.2.1
      have hfl : fr ≤ (lxs c n a s).length := Nat.le_trans hfj hjl
      have hf4 : fr ≤ 4000 := Nat.le_trans hfl hML
      have hend : Ev (fun k => emendatelaw13_RelexPrefix.l0 k (lxs c n a s) (fr : Int) c n a s (A : Int) (D : Int) I (fr : Int) ((j : Int) - fr) ((i : Int) - fr)) true := by
        refine Ev.step (f := fun k => (emendatelaw13_awake.f k).bind fun t621 => (if t621 = true then (if (fr : Int) = ((lxs c n a s).length : Int) then (some true) else (if 0 ≤ (fr : Int) then (if (fr : Int) < ((lxs c n a s).length : Int) then (some (decide ((wrap64 (((rd_T32 (lxs c n a s) (fr : Int)).f1) + ((rd_T32 (lxs c n a s) (fr : Int)).f3))) > (A : Int)))) else (none)) else (none))) else (some false))) (fun k => ?_) (behind_awake13 ?_)
        · simp only [emendatelaw13_RelexPrefix.l0]
          rw [if_neg (by omega)]
        · refine Ev.congr (fun k => ?_) (Ev.now true)
          by_cases he : fr = (lxs c n a s).length
          · rw [if_pos (show (fr : Int) = ((lxs c n a s).length : Int) from by rw [← he])]
          · have hlt : fr < (lxs c n a s).length := Nat.lt_of_le_of_ne hfl he
            obtain ⟨m1, m2, m3, m4⟩ := hM.2 fr hlt
            have g3 : wrap64 ((rd_T32 (lxs c n a s) (fr : Int)).f1 + (rd_T32 (lxs c n a s) (fr : Int)).f3) = (rd_T32 (lxs c n a s) (fr : Int)).f1 + (rd_T32 (lxs c n a s) (fr : Int)).f3 := wr _ (by omega) (by omega)
            have g4 := U.post hlt
            rw [if_neg (fun h : (fr : Int) = ((lxs c n a s).length : Int) => he (Int.ofNat.inj h)), if_pos (Int.natCast_nonneg fr), if_pos (Int.ofNat_lt.2 hlt), g3, decide_eq_true (Int.not_le.1 g4)]
      have key : ∀ (d z : Nat), fr - z ≤ d → z ≤ fr → Ev (fun k => emendatelaw13_RelexPrefix.l0 k (lxs c n a s) (z : Int) c n a s (A : Int) (D : Int) I (fr : Int) ((j : Int) - fr) ((i : Int) - fr)) true := by
        intro d
        induction d with
        | zero =>
          intro z e1 e2
          obtain rfl : z = fr := by omega
          exact hend
        | succ d ih =>
          intro z e1 e2
          by_cases he : z = fr
          · rw [he]; exact hend
          · have hlt : z < fr := by omega
            have hn := ih (z + 1) (by omega) (by omega)
            have g5 : wrap64 ((z : Int) + 1) = ((z + 1 : Nat) : Int) := loc1 z (by omega)
            have hzl : z < (lxs c n a s).length := Nat.lt_of_lt_of_le hlt hfl
            obtain ⟨m1, m2, m3, m4⟩ := hM.2 z hzl
            have g3 : wrap64 ((rd_T32 (lxs c n a s) (z : Int)).f1 + (rd_T32 (lxs c n a s) (z : Int)).f3) = (rd_T32 (lxs c n a s) (z : Int)).f1 + (rd_T32 (lxs c n a s) (z : Int)).f3 := wr _ (by omega) (by omega)
            have g4 := U.pre z hlt
            refine Ev.step (f := fun k => emendatelaw13_RelexPrefix.l0 k (lxs c n a s) ((z + 1 : Nat) : Int) c n a s (A : Int) (D : Int) I (fr : Int) ((j : Int) - fr) ((i : Int) - fr)) (fun k => ?_) hn
            simp only [emendatelaw13_RelexPrefix.l0]
            rw [if_pos (Int.ofNat_lt.2 hlt), if_pos (Int.natCast_nonneg z), if_pos (Int.ofNat_lt.2 hzl), g3, if_neg (Int.not_lt.2 g4), g5]
      have hj1 : Ev (fun k => emendatelaw13_RelexPrefix.j1 k (lxs c n a s) false c n a s (A : Int) (D : Int) I (fr : Int) ((j : Int) - fr) ((i : Int) - fr)) true := by
        refine Ev.step (f := fun k => emendatelaw13_RelexPrefix.l0 k (lxs c n a s) ((0 : Nat) : Int) c n a s (A : Int) (D : Int) I (fr : Int) ((j : Int) - fr) ((i : Int) - fr)) (fun k => ?_) (key fr 0 (Nat.sub_le _ _) (Nat.zero_le _))
        simp only [emendatelaw13_RelexPrefix.j1]
        rw [if_neg (by simp)]
        rfl
      refine Ev.step (f := fun k => (emendateref12_Lex.f k c n a s).bind fun t608 => ((relex_Update.f k c n a t608 (A : Int) (D : Int) I).bind fun bt611 => (if bt611.2.2.2.2 = 0 then (if bt611.2.1 < 0 then (emendatelaw13_RelexPrefix.j1 k t608 true c n a s (A : Int) (D : Int) I bt611.2.1 bt611.2.2.1 bt611.2.2.2.1) else (emendatelaw13_RelexPrefix.j1 k t608 (decide (bt611.2.1 > (t608.length : Int))) c n a s (A : Int) (D : Int) I bt611.2.1 bt611.2.2.1 bt611.2.2.2.1)) else (emendatelaw13_RelexPrefix.j1 k t608 true c n a s (A : Int) (D : Int) I bt611.2.1 bt611.2.2.1 bt611.2.2.2.1)))) (fun k => ?_) (Ev.bind (rLexs_ev hv s (by omega)) (Ev.bind u1 ?_))
      · simp only [emendatelaw13_RelexPrefix.j0]
        rw [if_neg (by simp)]
      · refine Ev.congr (fun k => ?_) hj1
        rw [if_pos rfl, if_neg (Int.not_lt.2 (Int.natCast_nonneg fr)), decide_eq_false (Int.not_lt.2 (Int.ofNat_le.2 hfl))]
end Go.Proofs.Ytepjegfhlglajaa.Q
namespace Go.Proofs.Ytepjegfhlglajaa.RelexPrefixRow
open Go.ChangeShapes Go.WideShapes Go.ChangeAt Go.RowKit Go.Proofs.Ytepjegfhlglajaa.Q Go.Proofs.YtepjegfhlglajaaW.PrintWords Go.Proofs.YtepjegfhlglajaaW.PrintLast Go.Proofs.YtepjegfhlglajaaW.PrintMore
open Go.ChangeMaps (open_string shut_string)
set_option linter.unusedVariables false
theorem own : ownKnob Try.prog.godebug = none := by kernel_rfl
theorem laidOut : laidOutB Try.prog = true := by kernel_rfl
set_option maxRecDepth 100000 in
theorem lifted (os : Os) (started : os.Started) (H : Type) (enc : TypeId × Value → H) :
    ReturnsInHanded {} Try.checked os 15 .any (Rows.relexPrefixSpec.pre6 enc Try.prog Try.f15 Rows.relexPrefixRow.domain false) (Rows.relexPrefixSpec.post enc Try.prog Try.f15 false true false false) := by
  refine returnsInHanded_of_change_sized (C := Try.checked) own started (by kernel_rfl) Try.func15
    (ChangeSpec.witness6 (enc := enc) (C := Try.checked) false ⟨#[], #[.agg #[.slice none 0 0, .slice none 0 0, .slice none 0 0, .string ByteArray.empty, .int .i64 0, .int .i64 0, .string ByteArray.empty]], []⟩ 8 (by kernel_rfl) (by kernel_rfl) (by kernel_rfl) (by kernel_rfl)) ?_
  intro W base args ds gs before hval0 hW hcnd hsz0 _
  have hsz : (DataW.weightsEach Try.prog (Try.f15.params.toList ++ Rows.relexPrefixSpec.plain.varTypes Try.prog) (ds ++ gs)).all (· ≤ reachBytes) = true := hsz0
  have hval : ∀ (j : Nat) t v, Try.f15.params[j]? = some t → args[j]? = some v → Value.okWide Try.prog W .any base t v := hval0
  have hW' := hW
  obtain ⟨p, q, hA0, hV, rfl, hfz, hnd⟩ := hW
  have hA : DataW.TrodAll enc Try.prog W 0 (fun _ => true) true Try.f15.params.toList args.toList ds p := hA0
  rw [Try.params15] at hA hval hsz
  obtain ⟨v0, vs0, d0, ds0, p0, q0, hargs, rfl, rfl, h0, r0⟩ := trodAll_cons hA
  obtain ⟨rfl, rfl, rfl⟩ := trodAll_nil r0
  obtain rfl : args = #[v0] := by cases args; simp_all
  obtain ⟨rfl, rfl⟩ := trodVars_none hV
  have k0 := h0
  have lt0 : ∀ x ∈ p0, x.block < W.heap.size := by obtain ⟨m, hm⟩ := k0; exact DataW.trod_lt m _ _ _ hm
  have sz0 := sized_arg hsz (j := 0) (t := 48) rfl rfl
  obtain ⟨A0_0, c0_0, l0_0, A0_1, c0_1, l0_1, A0_2, c0_2, l0_2, a0_3, a0_4, a0_5, a0_6, rfl, hr0_0, hc0_0, hr0_1, hc0_1, hr0_2, hc0_2, w0⟩ := open_ask (hval 0 48 v0 rfl rfl) h0
  clear hA0 hval0 hsz0
  obtain ⟨k, h⟩ := RelexPrefix_pure l0_0 l0_1 l0_2 a0_3 a0_4 a0_5 a0_6 (rows_bound hr0_1) (w0 sz0)
  refine (emendatelaw13_RelexPrefix.calls k _ _ l0_0 _ _ l0_1 _ _ l0_2 a0_3 a0_4 a0_5 a0_6 true W hr0_0 hc0_0 hr0_1 hc0_1 hr0_2 hc0_2 h).mono fun e W' ⟨he, bel⟩ => ?_
  subst he
  exact ⟨_, rfl, _, _, _, [], _, [], hW', trodAll_mk1 (shut_bool Try.underlying4 _), (trodAll_cons_mk (Below.trod laidOut (by kernel_rfl) (of_decide_eq_true (by kernel_rfl)) k0 bel lt0) trodAll_mk0), rfl, bel.frame _, fun h => by cases h⟩
theorem over : Rows.relexPrefixRow.holds Try.pinned (OpenSpec.ofChange Rows.relexPrefixSpec) :=
  OpenClaim.holds_of_wide 15 Try.f15 rfl rfl rfl rfl rfl rfl rfl ⟨rfl, rfl, rfl, rfl, rfl⟩ rfl rfl rfl rfl rfl (by kernel_rfl) Try.func15 (by kernel_rfl)
    (of_decide_eq_true (by kernel_rfl)) (by unfold Func.isWrapper; first | (rw [if_pos (by decide +kernel)]; kernel_rfl) | (rw [if_neg (by decide +kernel)]; exact ⟨rfl, rfl⟩))
    (fun os started H enc _ => lifted os started H enc)
theorem proved : Rows.RelexPrefixSaid := over
#print axioms proved
end Go.Proofs.Ytepjegfhlglajaa.RelexPrefixRow
namespace Go.Proofs.Ytepjegfhlglajaa
/-- The row, under a short name, for the claim. -/
theorem relexPrefix_holds : Rows.RelexPrefixSaid := RelexPrefixRow.proved
end Go.Proofs.Ytepjegfhlglajaa
