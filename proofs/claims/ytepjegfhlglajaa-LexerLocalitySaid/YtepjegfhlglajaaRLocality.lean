/- A token depends on its lookahead window alone: for every automaton and two texts the law LexerLocality returns true, and its arguments read as before. No condition. -/
import Derived.Test.YtepjegfhlglajaaRows
import Derived.Test.YtepjegfhlglajaaQOpen
import Derived.Test.YtepjegfhlglajaaQMathB
import Derived.Test.YtepjegfhlglajaaQEvalC
import Derived.Test.YtepjegfhlglajaaQF6
import Derived.WalkKit
import Derived.ProofKit
import Derived.OpenShut
import Derived.ShutString
import Derived.ChangeOld
import Derived.Below
import Derived.SizedLaws
namespace Go.Proofs.Ytepjegfhlglajaa.Q
set_option linter.unusedVariables false
open Go.RowKit Go.Proofs.YtepjegfhlglajaaW.PrintWords Go.Proofs.YtepjegfhlglajaaW.PrintLast Go.Proofs.YtepjegfhlglajaaW.PrintMore
variable {c : List Int} {n : List (List Int)} {a : List Int}
theorem loc_sz (s : ByteArray) (off k : Nat) (h : off + k ≤ s.size) : (s.extract off (off + k)).size = k := by
  rw [← L_length, L_extract, List.length_take, List.length_drop, L_length]; omega
theorem loc_app (s t : ByteArray) : (s ++ t).size = s.size + t.size := by
  rw [← L_length, L_append, List.length_append, L_length, L_length]
theorem loc_L (s tail : ByteArray) (off k : Nat) : L (s.extract off (off + k) ++ tail) = ((L s).drop off).take k ++ L tail := by
  rw [L_append, L_extract, Nat.add_sub_cancel_left]
theorem loc_ne (s tail : ByteArray) (off k : Nat) (h : off + k ≤ s.size) (hk : 1 ≤ k) : ((L s).drop off).take k ++ L tail ≠ [] := by
  intro h0
  have := congrArg List.length h0
  rw [List.length_append, List.length_take, List.length_drop, L_length, List.length_nil] at this
  omega
/-- What Lex answers on a token's window with anything behind it: the token first, at offset 0. -/
theorem loc_lex (hv : VD c n a) (s tail : ByteArray) (off : Nat) (hlt : off < s.size) (hb : off + (tko c n a s off).lk ≤ s.size) (hs : s.size + tail.size ≤ 1048576) :
    ∃ r : List S32, Ev (fun k => lexer_Lex.f k c n a (s.extract off (off + (tko c n a s off).lk) ++ tail)) (⟨(tko c n a s off).s.f0, 0, (tko c n a s off).s.f2, (tko c n a s off).s.f3⟩ :: r) := by
  obtain ⟨b1, b2, b3, b4, b5⟩ := tko_len (c := c) (n := n) (a := a) hlt
  have hys : (s.extract off (off + (tko c n a s off).lk) ++ tail).size ≤ 1048576 := by
    rw [loc_app, loc_sz _ _ _ hb]; omega
  have hlex := Lex_ev hv _ hys
  have hll : (tk c n a ((L s).drop off) off).lk ≤ ((L s).drop off).length := by
    rw [List.length_drop, L_length]; show (tko c n a s off).lk ≤ _; omega
  have htk := tk_local (c := c) (n := n) (a := a) (u := L tail) (drop_ne hlt) off hll 0
  have hst := lx_step c n a (loc_ne s tail off (tko c n a s off).lk hb b5) 0
  rw [loc_L, hst, List.map_cons] at hlex
  have htk' : (tk c n a (((L s).drop off).take (tko c n a s off).lk ++ L tail) 0).s = ⟨(tko c n a s off).s.f0, 0, (tko c n a s off).s.f2, (tko c n a s off).s.f3⟩ :=
    congrArg Tk.s htk
  rw [htk'] at hlex
  exact ⟨_, hlex⟩
theorem loc_wrap (i j : Nat) (h : i + j ≤ 1048600) : wrap64 ((i : Int) + (j : Int)) = ((i + j : Nat) : Int) := by
  rw [wrap_id (by omega) (by omega)]; omega
theorem loc_wrap1 (i : Nat) (h : i ≤ 1048600) : wrap64 ((i : Int) + 1) = ((i + 1 : Nat) : Int) := by
  rw [wrap_id (by omega) (by omega)]; omega
theorem hr0 (x : S32) (r : List S32) : rd_T32 (x :: r) 0 = x := rdT_get (l := x :: r) (i := 0) rfl
theorem locality_j2 (s tail : ByteArray) (hs : s.size ≤ 60) (ht : tail.size ≤ 30) (l : List S32) (i off lk : Nat) (hi : i ≤ 1048576) (hlt : off < s.size) (f0 : Int) (f2 : ByteArray) (f3 : Int)
    (hlex : off + lk ≤ s.size → ∃ r : List S32, Ev (fun k => lexer_Lex.f k c n a (s.extract off (off + lk) ++ tail)) (⟨f0, 0, f2, f3⟩ :: r))
    (hnext : Ev (fun k => emendatelaw12_LexerLocality.l0 k s tail l ((i + 1 : Nat) : Int) c n a) true) :
    Ev (fun k => emendatelaw12_LexerLocality.j2 k s tail l i ((off + lk : Nat) : Int) (decide (((off + lk : Nat) : Int) > (s.size : Int))) c n a f0 (off : Int) f2 f3) true := by
  by_cases hb : off + lk ≤ s.size
  · obtain ⟨r, hx⟩ := hlex hb
    refine Ev.step (f := fun k => (lexer_Lex.f k c n a (s.extract off (off + lk) ++ tail)).bind fun t260 => (if (t260.length : Int) = 0 then (some false) else (if 0 < (t260.length : Int) then (if ((rd_T32 t260 0).f0) = f0 then (if ((rd_T32 t260 0).f1) = 0 then (if ((rd_T32 t260 0).f2).toList = f2.toList then (if ((rd_T32 t260 0).f3) = f3 then (emendatelaw12_LexerLocality.l0 k s tail l (wrap64 ((i : Int) + 1)) c n a) else (some false)) else (some false)) else (some false)) else (some false)) else (none)))) (fun k => ?_) (Ev.bind hx ?_)
    · have h1 : ¬ (((off + lk : Nat) : Int) > (s.size : Int)) := by omega
      have h2 : (0 : Int) ≤ (off : Int) := by omega
      have h3 : (off : Int) ≤ ((off + lk : Nat) : Int) := by omega
      have h4 : ((off + lk : Nat) : Int) ≤ (s.size : Int) := by omega
      have h5 : (s.extract off (off + lk)).size + tail.size ≤ 9223372036854775807 := by rw [loc_sz _ _ _ hb]; omega
      simp only [emendatelaw12_LexerLocality.j2]
      rw [decide_eq_false h1, if_neg (by simp), if_pos h2, if_pos h3, if_pos h4, toNat_cast, toNat_cast, if_pos h5]
    · refine Ev.congr (fun k => ?_) hnext
      have h1 : ¬ (((r.length + 1 : Nat) : Int) = 0) := by omega
      have h2 : 0 < ((r.length + 1 : Nat) : Int) := by omega
      rw [hr0, List.length_cons, if_neg h1, if_pos h2, if_pos rfl, if_pos rfl, if_pos rfl, if_pos rfl, loc_wrap1 i (by omega)]
  · refine Ev.step (f := fun k => emendatelaw12_LexerLocality.l0 k s tail l ((i + 1 : Nat) : Int) c n a) (fun k => ?_) hnext
    have h1 : (((off + lk : Nat) : Int) > (s.size : Int)) := by omega
    simp only [emendatelaw12_LexerLocality.j2]
    rw [decide_eq_true h1, if_pos rfl, loc_wrap1 i (by omega)]
theorem locality_l0 (hv : VD c n a) (s tail : ByteArray) (hs : s.size ≤ 60) (ht : tail.size ≤ 30) (l : List S32) (hlen : l.length ≤ 1048576) :
    ∀ (d i off : Nat), s.size - off ≤ d → Cur c n a s l i off → Ev (fun k => emendatelaw12_LexerLocality.l0 k s tail l i c n a) true := by
  have hst : s.size + tail.size ≤ 1048576 := by omega
  have hend : ∀ (i off : Nat), off = s.size → Cur c n a s l i off → Ev (fun k => emendatelaw12_LexerLocality.l0 k s tail l i c n a) true := by
    intro i off he hc
    have := cur_end hc he
    refine Ev.step (f := fun _ => some true) (fun k => ?_) (Ev.now _)
    simp only [emendatelaw12_LexerLocality.l0]
    rw [if_neg (by omega)]
  intro d
  induction d with
  | zero => intro i off h1 h2; exact hend i off (by have := h2.1; omega) h2
  | succ d ih =>
    intro i off h1 h2
    by_cases he : off = s.size
    · exact hend i off he h2
    · have hlt : off < s.size := by have := h2.1; omega
      obtain ⟨g1, g2, g3⟩ := cur_step h2 hlt
      obtain ⟨b1, b2, b3, b4, b5⟩ := tko_len (c := c) (n := n) (a := a) hlt
      have hnext := ih (i + 1) (off + (tko c n a s off).tx.length) (by omega) g3
      have hi : i ≤ 1048576 := Nat.le_of_lt (Nat.lt_of_lt_of_le g1 hlen)
      have hj := locality_j2 (c := c) (n := n) (a := a) s tail hs ht l i off (tko c n a s off).lk hi hlt (tko c n a s off).s.f0 (tko c n a s off).s.f2 (tko c n a s off).s.f3 (fun hb => loc_lex hv s tail off hlt hb hst) hnext
      have e1 : (tko c n a s off).s.f1 = (off : Int) := rfl
      have e3 : (tko c n a s off).s.f3 = ((tko c n a s off).lk : Int) := rfl
      have hw := loc_wrap off (tko c n a s off).lk (Nat.le_trans b4 (Nat.le_trans (Nat.succ_le_succ hs) (by decide)))
      have p1 : (i : Int) < (l.length : Int) := Int.ofNat_lt.2 g1
      have p2 : (0 : Int) ≤ (i : Int) := Int.natCast_nonneg i
      have p3 : ¬ ((off : Int) < 0) := Int.not_lt.2 (Int.natCast_nonneg off)
      refine Ev.step (f := fun k => emendatelaw12_LexerLocality.j2 k s tail l i ((off + (tko c n a s off).lk : Nat) : Int) (decide (((off + (tko c n a s off).lk : Nat) : Int) > (s.size : Int))) c n a (tko c n a s off).s.f0 (off : Int) (tko c n a s off).s.f2 (tko c n a s off).s.f3) (fun k => ?_) hj
      simp only [emendatelaw12_LexerLocality.l0]
      rw [if_pos p1, if_pos p2, rdT_get g2, e1, if_neg p3, e3, hw]
theorem LexerLocality_pure (c : List Int) (n : List (List Int)) (a : List Int) (s tail : ByteArray) (hrows : ∀ s : Int, 0 ≤ s → s < (n.length : Int) → (rd_L3 n s).length ≤ 9223372036854775807) (_ : s.size ≤ 140737488351232) (_ : tail.size ≤ 140737488351232) :
    ∃ k, emendatelaw12_LexerLocality.f k c n a s tail = some true := by
  have hj0 : Ev (fun k => emendatelaw12_LexerLocality.j0 k s tail true c n a) true := by
    refine Ev.step (f := fun _ => some true) (fun k => ?_) (Ev.now _)
    simp only [emendatelaw12_LexerLocality.j0]
    rw [if_pos trivial]
  refine Ev.rounds (g := fun k => emendatelaw12_LexerLocality.f k c n a s tail) (behind_awake (behind_light hrows (fun hv hs => ?_) hj0))
  by_cases h0 : (tail.size : Int) > 30
  · rw [decide_eq_true h0]; exact hj0
  · rw [decide_eq_false h0]
    refine Ev.step (f := fun k => (lexer_Lex.f k c n a s).bind fun t255 => emendatelaw12_LexerLocality.l0 k s tail t255 0 c n a) (fun k => ?_) (Ev.bind (Lex_ev hv s (by omega)) ?_)
    · simp only [emendatelaw12_LexerLocality.j0]
      rw [if_neg (by simp)]
    · exact locality_l0 hv s tail hs (by omega) _ (lx_len c n a s (by omega)) _ 0 0 (Nat.le_refl _) (cur_start s)
end Go.Proofs.Ytepjegfhlglajaa.Q
namespace Go.Proofs.Ytepjegfhlglajaa.LexerLocalityRow
open Go.ChangeShapes Go.WideShapes Go.ChangeAt Go.RowKit Go.Proofs.Ytepjegfhlglajaa.Q Go.Proofs.YtepjegfhlglajaaW.PrintWords Go.Proofs.YtepjegfhlglajaaW.PrintLast Go.Proofs.YtepjegfhlglajaaW.PrintMore
open Go.ChangeMaps (open_string shut_string)
set_option linter.unusedVariables false
theorem own : ownKnob Try.prog.godebug = none := by kernel_rfl
theorem laidOut : laidOutB Try.prog = true := by kernel_rfl
set_option maxRecDepth 100000 in
theorem lifted (os : Os) (started : os.Started) (H : Type) (enc : TypeId × Value → H) :
    ReturnsInHanded {} Try.checked os 6 .any (Rows.lexerLocalitySpec.pre6 enc Try.prog Try.f6 Rows.lexerLocalityRow.domain false) (Rows.lexerLocalitySpec.post enc Try.prog Try.f6 false true false false) := by
  refine returnsInHanded_of_change_sized (C := Try.checked) own started (by kernel_rfl) Try.func6
    (ChangeSpec.witness6 (enc := enc) (C := Try.checked) false ⟨#[], #[.agg #[.slice none 0 0, .slice none 0 0, .slice none 0 0], .string ByteArray.empty, .string ByteArray.empty], []⟩ 8 (by kernel_rfl) (by kernel_rfl) (by kernel_rfl) (by kernel_rfl)) ?_
  intro W base args ds gs before hval0 hW hcnd hsz0 _
  have hsz : (DataW.weightsEach Try.prog (Try.f6.params.toList ++ Rows.lexerLocalitySpec.plain.varTypes Try.prog) (ds ++ gs)).all (· ≤ reachBytes) = true := hsz0
  have hval : ∀ (j : Nat) t v, Try.f6.params[j]? = some t → args[j]? = some v → Value.okWide Try.prog W .any base t v := hval0
  have hW' := hW
  obtain ⟨p, q, hA0, hV, rfl, hfz, hnd⟩ := hW
  have hA : DataW.TrodAll enc Try.prog W 0 (fun _ => true) true Try.f6.params.toList args.toList ds p := hA0
  rw [Try.params6] at hA hval hsz
  obtain ⟨v0, vs0, d0, ds0, p0, q0, hargs, rfl, rfl, h0, r0⟩ := trodAll_cons hA
  obtain ⟨v1, vs1, d1, ds1, p1, q1, rfl, rfl, rfl, h1, r1⟩ := trodAll_cons r0
  obtain ⟨v2, vs2, d2, ds2, p2, q2, rfl, rfl, rfl, h2, r2⟩ := trodAll_cons r1
  obtain ⟨rfl, rfl, rfl⟩ := trodAll_nil r2
  obtain rfl : args = #[v0, v1, v2] := by cases args; simp_all
  obtain ⟨rfl, rfl⟩ := trodVars_none hV
  have k0 := h0
  have lt0 : ∀ x ∈ p0, x.block < W.heap.size := by obtain ⟨m, hm⟩ := k0; exact DataW.trod_lt m _ _ _ hm
  obtain ⟨A0_0, c0_0, l0_0, A0_1, c0_1, l0_1, A0_2, c0_2, l0_2, rfl, hr0_0, hc0_0, hr0_1, hc0_1, hr0_2, hc0_2⟩ := open_dfa (hval 0 25 v0 rfl rfl) h0
  obtain ⟨a1, rfl, rfl, rfl, y1⟩ := open_string Try.underlying9 (hval 1 9 v1 rfl rfl) h1
  have w1 : a1.size ≤ 140737488351232 := by
    have z := sized_string hsz (j := 1) (t := 9) rfl rfl
    rw [Array.length_toList] at z
    exact z
  obtain ⟨a2, rfl, rfl, rfl, y2⟩ := open_string Try.underlying9 (hval 2 9 v2 rfl rfl) h2
  have w2 : a2.size ≤ 140737488351232 := by
    have z := sized_string hsz (j := 2) (t := 9) rfl rfl
    rw [Array.length_toList] at z
    exact z
  clear hA0 hval0 hsz0
  obtain ⟨k, h⟩ := LexerLocality_pure l0_0 l0_1 l0_2 a1 a2 (rows_bound hr0_1) w1 w2
  refine (emendatelaw12_LexerLocality.calls k _ _ l0_0 _ _ l0_1 _ _ l0_2 a1 a2 true W hr0_0 hc0_0 hr0_1 hc0_1 hr0_2 hc0_2 h).mono fun e W' ⟨he, bel⟩ => ?_
  subst he
  exact ⟨_, rfl, _, _, _, [], _, [], hW', trodAll_mk1 (shut_bool Try.underlying4 _), (trodAll_cons_mk (Below.trod laidOut (by kernel_rfl) (of_decide_eq_true (by kernel_rfl)) k0 bel lt0) (trodAll_cons_mk (shut_string Try.underlying9 y1) (trodAll_cons_mk (shut_string Try.underlying9 y2) trodAll_mk0))), rfl, bel.frame _, fun h => by cases h⟩
theorem over : Rows.lexerLocalityRow.holds Try.pinned (OpenSpec.ofChange Rows.lexerLocalitySpec) :=
  OpenClaim.holds_of_wide 6 Try.f6 rfl rfl rfl rfl rfl rfl rfl ⟨rfl, rfl, rfl, rfl, rfl⟩ rfl rfl rfl rfl rfl (by kernel_rfl) Try.func6 (by kernel_rfl)
    (of_decide_eq_true (by kernel_rfl)) (by unfold Func.isWrapper; first | (rw [if_pos (by decide +kernel)]; kernel_rfl) | (rw [if_neg (by decide +kernel)]; exact ⟨rfl, rfl⟩))
    (fun os started H enc _ => lifted os started H enc)
theorem proved : Rows.LexerLocalitySaid := over
#print axioms proved
end Go.Proofs.Ytepjegfhlglajaa.LexerLocalityRow
namespace Go.Proofs.Ytepjegfhlglajaa
/-- The row, under a short name, for the claim. -/
theorem lexerLocality_holds : Rows.LexerLocalitySaid := LexerLocalityRow.proved
end Go.Proofs.Ytepjegfhlglajaa
