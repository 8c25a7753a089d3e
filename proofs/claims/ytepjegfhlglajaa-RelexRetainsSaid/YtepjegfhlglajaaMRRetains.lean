/- The first tokens are unchanged, the tokens behind the change are the old ones, shifted, and the numbers of tokens add up. No condition: the law's own guard bounds the text. -/
import Derived.Test.YtepjegfhlglajaaRows
import Derived.Test.YtepjegfhlglajaaMQOpen
import Derived.Test.YtepjegfhlglajaaMQOpenB
import Derived.Test.YtepjegfhlglajaaMQRelexG
import Derived.Test.YtepjegfhlglajaaMQF14
import Derived.Below
import Derived.ChangeOld
import Derived.OpenShut
import Derived.ProofKit
import Derived.ShutString
import Derived.SizedLaws
import Derived.WalkKit
namespace Go.Proofs.Ytepjegfhlglajaa.Q
set_option linter.unusedVariables false
open Go.RowKit Go.Proofs.YtepjegfhlglajaaW.PrintWords Go.Proofs.YtepjegfhlglajaaW.PrintLast Go.Proofs.YtepjegfhlglajaaW.PrintMore
theorem fitsb_ev (s : ByteArray) (hs : s.size ≤ 5000) (x y : Int) (I : ByteArray) : ∃ b, emendateref01_Fits.f (s.size : Int) x y I = some b ∧ (b = true → fitsP s.size x y) := by
  by_cases h : fitsP s.size x y
  · exact ⟨true, ((fits_f s.size hs x y I).1 h).2, fun _ => h⟩
  · exact ⟨false, ((fits_f s.size hs x y I).2 h).2, by simp⟩
theorem rd_get {l : List S32} {i : Nat} (h : i < l.length) : rd_T32 l (i : Int) = l[i] := rdT_get (List.getElem?_eq_getElem h)
/-- Element by element: the retained tokens, and the tokens behind the change. -/
theorem ret_pre {ls lt : List S32} {fr z : Nat} (h : ls.take fr = lt.take fr) (hz : z < fr) (h1 : z < ls.length) (h2 : z < lt.length) : rd_T32 lt (z : Int) = rd_T32 ls (z : Int) := by
  rw [rd_get h1, rd_get h2]
  have := congrArg (fun l => l[z]?) h
  simp only [List.getElem?_take, if_pos hz, List.getElem?_eq_getElem h1, List.getElem?_eq_getElem h2] at this
  injection this with this
  exact this.symm
theorem ret_post {ls lt : List S32} {sh : Int} {i j z : Nat} (h : lt.take i ++ (ls.drop j).map (shf sh) = lt) (hi : i ≤ lt.length) (hz : i ≤ z) (h2 : z < lt.length) : z - i + j < ls.length ∧ rd_T32 lt (z : Int) = shf sh (rd_T32 ls ((z - i + j : Nat) : Int)) := by
  have hl := congrArg List.length h
  rw [List.length_append, List.length_take, List.length_map, List.length_drop, Nat.min_eq_left hi] at hl
  have h1 : z - i + j < ls.length := by omega
  refine ⟨h1, ?_⟩
  rw [rd_get h2, rd_get h1]
  have := congrArg (fun l => l[z]?) h
  simp only [List.getElem?_eq_getElem h2] at this
  rw [List.getElem?_append_right (by rw [List.length_take]; omega), List.length_take, Nat.min_eq_left hi, List.getElem?_map, List.getElem?_drop, show j + (z - i) = z - i + j from by omega, List.getElem?_eq_getElem h1] at this
  simp only [Option.map_some, Option.some.injEq] at this
  exact this.symm
theorem ret_len {ls lt : List S32} {sh : Int} {i j : Nat} (h : lt.take i ++ (ls.drop j).map (shf sh) = lt) (hi : i ≤ lt.length) (hj : j ≤ ls.length) : lt.length + j = i + ls.length := by
  have hl := congrArg List.length h
  rw [List.length_append, List.length_take, List.length_map, List.length_drop, Nat.min_eq_left hi] at hl
  omega
theorem rt1 (z : Nat) (h : z ≤ 4000) : wrap64 ((z : Int) + 1) = ((z + 1 : Nat) : Int) := by rw [wr _ (by omega) (by omega)]; omega
theorem rt2 {fr i : Nat} (h : fr ≤ i) (h4 : i ≤ 4000) : wrap64 ((fr : Int) + ((i : Int) - fr)) = (i : Int) := by rw [wr _ (by omega) (by omega)]; omega
theorem rt3 {fr i j z : Nat} (h1 : fr ≤ i) (h2 : fr ≤ j) (h3 : i ≤ z) (i4 : i ≤ 4000) (j4 : j ≤ 4000) (z4 : z ≤ 4000) : wrap64 (wrap64 ((z : Int) - ((i : Int) - fr)) + ((j : Int) - fr)) = ((z - i + j : Nat) : Int) := by
  rw [wr ((z : Int) - ((i : Int) - fr)) (by omega) (by omega), wr _ (by omega) (by omega)]; omega
theorem rt4 (x : Int) (Z D : Nat) (h0 : 0 ≤ x) (h1 : x ≤ 4000) (hZ : Z ≤ 500) (hD : D ≤ 1000) : wrap64 (wrap64 (x + (Z : Int)) - (D : Int)) = x + ((Z : Int) - D) := by
  rw [wr (x + (Z : Int)) (by omega) (by omega), wr _ (by omega) (by omega)]; omega
theorem ret_l0 (c : List Int) (n : List (List Int)) (a : List Int) (s I : ByteArray) (A D : Nat) (hI : I.size ≤ 500) (hD : D ≤ 1000) (ls lt : List S32) (hMs : Mod ls) (hMt : Mod lt) (fr i j : Nat) (fi : fr ≤ i) (fj : fr ≤ j) (hi : i ≤ lt.length) (hj : j ≤ ls.length) (htk : ls.take fr = lt.take fr)
    (hfin : lt.take i ++ (ls.drop j).map (shf ((I.size : Int) - D)) = lt) :
    ∀ (d z : Nat), lt.length - z ≤ d → z ≤ lt.length → Ev (fun k => emendatelaw13_RelexRetains.l0 k ls lt (z : Int) c n a s (A : Int) (D : Int) I (fr : Int) ((j : Int) - fr) ((i : Int) - fr)) true := by
  have i4 : i ≤ 4000 := Nat.le_trans hi hMt.1
  have j4 : j ≤ 4000 := Nat.le_trans hj hMs.1
  have hend : ∀ z : Nat, z = lt.length → Ev (fun k => emendatelaw13_RelexRetains.l0 k ls lt (z : Int) c n a s (A : Int) (D : Int) I (fr : Int) ((j : Int) - fr) ((i : Int) - fr)) true := by
    intro z he
    have g1 : ¬ (z : Int) < (lt.length : Int) := by omega
    refine Ev.step (f := fun k => (emendatelaw13_awake.f k).bind fun t => some t) (fun k => ?_) awake_some
    simp only [emendatelaw13_RelexRetains.l0]
    rw [if_neg g1]
  intro d
  induction d with
  | zero => intro z h1 h2; exact hend z (by omega)
  | succ d ih =>
    intro z h1 h2
    by_cases he : z = lt.length
    · exact hend z he
    · have hz : z < lt.length := by omega
      have hn := ih (z + 1) (by omega) (by omega)
      have z4 : z ≤ 4000 := Nat.le_trans h2 hMt.1
      have g1 := rt1 z z4
      have g2 := rt2 fi i4
      have hj3 : Ev (fun k => emendatelaw13_RelexRetains.j3 k ls lt (z : Int) false c n a s (A : Int) (D : Int) I (fr : Int) ((j : Int) - fr) ((i : Int) - fr)) true := by
        refine Ev.step (f := fun k => emendatelaw13_RelexRetains.l0 k ls lt ((z + 1 : Nat) : Int) c n a s (A : Int) (D : Int) I (fr : Int) ((j : Int) - fr) ((i : Int) - fr)) (fun k => ?_) hn
        simp only [emendatelaw13_RelexRetains.j3]
        rw [if_neg (by simp), g2]
        by_cases hzi : i ≤ z
        · obtain ⟨w1, w2⟩ := ret_post hfin hi hzi hz
          have g3 := rt3 fi fj hzi i4 j4 z4
          obtain ⟨m1, m2, _, _⟩ := hMs.2 (z - i + j) w1
          have g4 := rt4 (rd_T32 ls ((z - i + j : Nat) : Int)).f1 I.size D m1 m2 hI hD
          rw [if_pos (Int.ofNat_le.2 hzi), g3, if_pos (Int.natCast_nonneg _), if_pos (Int.ofNat_lt.2 w1), if_pos (Int.natCast_nonneg z), if_pos (Int.ofNat_lt.2 hz), g4, w2, g1]
          rw [if_neg (by simp [shf])]
        · rw [if_neg (fun h => hzi (Int.ofNat_le.1 h)), g1]
      refine Ev.step (f := fun k => emendatelaw13_RelexRetains.j3 k ls lt (z : Int) false c n a s (A : Int) (D : Int) I (fr : Int) ((j : Int) - fr) ((i : Int) - fr)) (fun k => ?_) hj3
      simp only [emendatelaw13_RelexRetains.l0]
      rw [if_pos (Int.ofNat_lt.2 hz)]
      by_cases hzf : z < fr
      · have hzl : z < ls.length := Nat.lt_of_lt_of_le hzf (Nat.le_trans fj hj)
        have hq := ret_pre htk hzf hzl hz
        rw [if_pos (Int.ofNat_lt.2 hzf), if_pos (Int.natCast_nonneg z), if_pos (Int.ofNat_lt.2 hzl), hq]
        simp
      · rw [if_neg (fun h => hzf (Int.ofNat_lt.1 h))]
theorem rt5 {ls lt i j fr : Nat} (h : lt + j = i + ls) (fi : fr ≤ i) (fj : fr ≤ j) (hj : j ≤ ls) (a4 : ls ≤ 4000) (b4 : lt ≤ 4000) (i4 : i ≤ 4000) : wrap64 (wrap64 ((ls : Int) - ((j : Int) - fr)) + ((i : Int) - fr)) = (lt : Int) := by
  rw [wr ((ls : Int) - ((j : Int) - fr)) (by omega) (by omega), wr _ (by omega) (by omega)]; omega
theorem RelexRetains_pure (c : List Int) (n : List (List Int)) (a : List Int) (s : ByteArray) (x y : Int) (I : ByteArray) (hrows : ∀ s : Int, 0 ≤ s → s < (n.length : Int) → (rd_L3 n s).length ≤ 9223372036854775807) (_ : s.size ≤ 140737488351232 ∧ EditOk ⟨x, y, I⟩) :
    ∃ k, emendatelaw13_RelexRetains.f k c n a s x y I = some true := by
  have hj0 : Ev (fun k => emendatelaw13_RelexRetains.j0 k true c n a s x y I) true := by
    refine Ev.step (f := fun k => (emendatelaw13_awake.f k).bind fun t => some t) (fun k => ?_) awake_some
    simp only [emendatelaw13_RelexRetains.j0]
    rw [if_pos trivial]
  refine Ev.rounds (g := fun k => emendatelaw13_RelexRetains.f k c n a s x y I) ?_
  obtain ⟨b, h1, h2⟩ := may_ev (c := c) (a := a) hrows s x y I
  refine Ev.bind h1 ?_
  cases b with
  | false => exact Ev.congr (fun k => if_neg (by simp)) hj0
  | true =>
    obtain ⟨hv, hs, hI⟩ := h2 rfl
    obtain ⟨fb, f1, f2⟩ := fitsb_ev s (by omega) x y I
    refine Ev.congr (f := fun k => emendatelaw13_RelexRetains.j0 k (!fb) c n a s x y I) (fun k => by rw [if_pos rfl, f1]; rfl) ?_
    cases fb with
    | false => exact hj0
    | true =>
      obtain ⟨A, D, rfl, rfl, hAD⟩ := fits_nat (f2 rfl)
      have hsz := edt_size s A D I hAD
      have q3 : s.size ≤ 3000 := by omega
      have q4 : (edt s A D I).size ≤ 3000 := by omega
      have q5 : I.size ≤ 500 := by omega
      have q6 : D ≤ 1000 := by omega
      have q7 : s.size ≤ 1000 := by omega
      obtain ⟨fr, i, j, p, q, U, u1, _⟩ := Update_ev hv s I A D q7 q5 hAD
      have hMs : Mod (lxs c n a s) := mod_lxs q3
      have hMt : Mod (lxs c n a (edt s A D I)) := mod_lxs q4
      have hfin := up_final (edt_drop s A D I hAD) U.ct U.cs U.hp U.he
      have hi := U.ct.2.2.1
      have hj := U.cs.2.2.1
      have fi := U.fi
      have fj := U.fj
      have hl0 := ret_l0 c n a s I A D q5 q6 (lxs c n a s) (lxs c n a (edt s A D I)) hMs hMt fr i j fi fj hi hj U.tk hfin (lxs c n a (edt s A D I)).length 0 (Nat.sub_le _ _) (Nat.zero_le _)
      have hlen := rt5 (ret_len hfin hi hj) fi fj hj hMs.1 hMt.1 (Nat.le_trans hi hMt.1)
      have hw := rt2 fj (Nat.le_trans hj hMs.1)
      generalize lxs c n a (edt s A D I) = lt at u1 hl0 hlen hi
      have hj1 : Ev (fun k => emendatelaw13_RelexRetains.j1 k (lxs c n a s) lt false c n a s (A : Int) (D : Int) I (fr : Int) ((j : Int) - fr) ((i : Int) - fr)) true := by
        refine Ev.step (f := fun k => emendatelaw13_RelexRetains.l0 k (lxs c n a s) lt ((0 : Nat) : Int) c n a s (A : Int) (D : Int) I (fr : Int) ((j : Int) - fr) ((i : Int) - fr)) (fun k => ?_) hl0
        simp only [emendatelaw13_RelexRetains.j1]
        rw [if_neg (by simp)]
        rfl
      have n1 : ¬ (fr : Int) < 0 := Int.not_lt.2 (Int.natCast_nonneg fr)
      have n2 : ¬ (j : Int) - fr < 0 := Int.not_lt.2 (Int.sub_nonneg_of_le (Int.ofNat_le.2 fj))
      have n3 : ¬ (i : Int) - fr < 0 := Int.not_lt.2 (Int.sub_nonneg_of_le (Int.ofNat_le.2 fi))
      have n4 : ¬ (j : Int) > ((lxs c n a s).length : Int) := Int.not_lt.2 (Int.ofNat_le.2 hj)
      refine Ev.step (f := fun k => (emendateref12_Lex.f k c n a s).bind fun t587 => ((relex_Update.f k c n a t587 (A : Int) (D : Int) I).bind fun bt590 => (if bt590.2.2.2.2 = 0 then (if bt590.2.1 < 0 then (emendatelaw13_RelexRetains.j1 k t587 bt590.1 true c n a s (A : Int) (D : Int) I bt590.2.1 bt590.2.2.1 bt590.2.2.2.1) else (if bt590.2.2.1 < 0 then (emendatelaw13_RelexRetains.j1 k t587 bt590.1 true c n a s (A : Int) (D : Int) I bt590.2.1 bt590.2.2.1 bt590.2.2.2.1) else (if bt590.2.2.2.1 < 0 then (emendatelaw13_RelexRetains.j1 k t587 bt590.1 true c n a s (A : Int) (D : Int) I bt590.2.1 bt590.2.2.1 bt590.2.2.2.1) else (if (wrap64 (bt590.2.1 + bt590.2.2.1)) > (t587.length : Int) then (emendatelaw13_RelexRetains.j1 k t587 bt590.1 true c n a s (A : Int) (D : Int) I bt590.2.1 bt590.2.2.1 bt590.2.2.2.1) else (emendatelaw13_RelexRetains.j1 k t587 bt590.1 ((wrap64 ((wrap64 ((t587.length : Int) - bt590.2.2.1)) + bt590.2.2.2.1)) != (bt590.1.length : Int)) c n a s (A : Int) (D : Int) I bt590.2.1 bt590.2.2.1 bt590.2.2.2.1))))) else (emendatelaw13_RelexRetains.j1 k t587 bt590.1 true c n a s (A : Int) (D : Int) I bt590.2.1 bt590.2.2.1 bt590.2.2.2.1)))) (fun k => ?_) (Ev.bind (rLexs_ev hv s q3) (Ev.bind u1 ?_))
      · simp only [emendatelaw13_RelexRetains.j0]
        rw [if_neg (by simp)]
      · refine Ev.congr (fun k => ?_) hj1
        rw [if_pos rfl, if_neg n1, if_neg n2, if_neg n3, hw, if_neg n4, hlen]
        simp
end Go.Proofs.Ytepjegfhlglajaa.Q
namespace Go.Proofs.Ytepjegfhlglajaa.RelexRetainsRow
open Go.ChangeShapes Go.WideShapes Go.ChangeAt Go.RowKit Go.Proofs.Ytepjegfhlglajaa.Q Go.Proofs.YtepjegfhlglajaaW.PrintWords Go.Proofs.YtepjegfhlglajaaW.PrintLast Go.Proofs.YtepjegfhlglajaaW.PrintMore
open Go.ChangeMaps (open_string shut_string)
set_option linter.unusedVariables false
theorem own : ownKnob Try.prog.godebug = none := by kernel_rfl
theorem laidOut : laidOutB Try.prog = true := by kernel_rfl
set_option maxRecDepth 100000 in
theorem lifted (os : Os) (started : os.Started) (H : Type) (enc : TypeId × Value → H) :
    ReturnsInHanded {} Try.checked os 14 .any (Rows.relexRetainsSpec.pre6 enc Try.prog Try.f14 Rows.relexRetainsRow.domain false) (Rows.relexRetainsSpec.post enc Try.prog Try.f14 false true false false) := by
  refine returnsInHanded_of_change_sized (C := Try.checked) own started (by kernel_rfl) Try.func14
    (ChangeSpec.witness6 (enc := enc) (C := Try.checked) false ⟨#[], #[.agg #[.slice none 0 0, .slice none 0 0, .slice none 0 0, .string ByteArray.empty, .int .i64 0, .int .i64 0, .string ByteArray.empty]], []⟩ 8 (by kernel_rfl) (by kernel_rfl) (by kernel_rfl) (by kernel_rfl)) ?_
  intro W base args ds gs before hval0 hW hcnd hsz0 _
  have hsz : (DataW.weightsEach Try.prog (Try.f14.params.toList ++ Rows.relexRetainsSpec.plain.varTypes Try.prog) (ds ++ gs)).all (· ≤ reachBytes) = true := hsz0
  have hval : ∀ (j : Nat) t v, Try.f14.params[j]? = some t → args[j]? = some v → Value.okWide Try.prog W .any base t v := hval0
  have hW' := hW
  obtain ⟨p, q, hA0, hV, rfl, hfz, hnd⟩ := hW
  have hA : DataW.TrodAll enc Try.prog W 0 (fun _ => true) true Try.f14.params.toList args.toList ds p := hA0
  rw [Try.params14] at hA hval hsz
  obtain ⟨v0, vs0, d0, ds0, p0, q0, hargs, rfl, rfl, h0, r0⟩ := trodAll_cons hA
  obtain ⟨rfl, rfl, rfl⟩ := trodAll_nil r0
  obtain rfl : args = #[v0] := by cases args; simp_all
  obtain ⟨rfl, rfl⟩ := trodVars_none hV
  have k0 := h0
  have lt0 : ∀ x ∈ p0, x.block < W.heap.size := by obtain ⟨m, hm⟩ := k0; exact DataW.trod_lt m _ _ _ hm
  have sz0 := sized_arg hsz (j := 0) (t := 48) rfl rfl
  obtain ⟨A0_0, c0_0, l0_0, A0_1, c0_1, l0_1, A0_2, c0_2, l0_2, a0_3, a0_4, a0_5, a0_6, rfl, hr0_0, hc0_0, hr0_1, hc0_1, hr0_2, hc0_2, w0⟩ := open_ask (hval 0 48 v0 rfl rfl) h0
  clear hA0 hval0 hsz0
  obtain ⟨k, h⟩ := RelexRetains_pure l0_0 l0_1 l0_2 a0_3 a0_4 a0_5 a0_6 (rows_bound hr0_1) (w0 sz0)
  refine (emendatelaw13_RelexRetains.calls k _ _ l0_0 _ _ l0_1 _ _ l0_2 a0_3 a0_4 a0_5 a0_6 true W hr0_0 hc0_0 hr0_1 hc0_1 hr0_2 hc0_2 h).mono fun e W' ⟨he, bel⟩ => ?_
  subst he
  exact ⟨_, rfl, _, _, _, [], _, [], hW', trodAll_mk1 (shut_bool Try.underlying4 _), (trodAll_cons_mk (Below.trod laidOut (by kernel_rfl) (of_decide_eq_true (by kernel_rfl)) k0 bel lt0) trodAll_mk0), rfl, bel.frame _, fun h => by cases h⟩
theorem over : Rows.relexRetainsRow.holds Try.pinned (OpenSpec.ofChange Rows.relexRetainsSpec) :=
  OpenClaim.holds_of_wide 14 Try.f14 rfl rfl rfl rfl rfl rfl rfl ⟨rfl, rfl, rfl, rfl, rfl⟩ rfl rfl rfl rfl rfl (by kernel_rfl) Try.func14 (by kernel_rfl)
    (of_decide_eq_true (by kernel_rfl)) (by unfold Func.isWrapper; first | (rw [if_pos (by decide +kernel)]; kernel_rfl) | (rw [if_neg (by decide +kernel)]; exact ⟨rfl, rfl⟩))
    (fun os started H enc _ => lifted os started H enc)
theorem proved : Rows.RelexRetainsSaid := over
#print axioms proved
end Go.Proofs.Ytepjegfhlglajaa.RelexRetainsRow
namespace Go.Proofs.Ytepjegfhlglajaa
/-- The row, under a short name, for the claim. -/
theorem relexRetains_holds : Rows.RelexRetainsSaid := RelexRetainsRow.proved
end Go.Proofs.Ytepjegfhlglajaa
