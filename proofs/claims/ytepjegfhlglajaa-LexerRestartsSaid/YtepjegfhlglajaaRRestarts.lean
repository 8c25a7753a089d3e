/- Scanning from a token's begin on gives the remaining tokens, shifted: for every automaton, text and number the law LexerRestarts returns true, and its arguments read as before. No condition. -/
import Derived.Test.YtepjegfhlglajaaRows
import Derived.Test.YtepjegfhlglajaaQOpen
import Derived.Test.YtepjegfhlglajaaQMathB
import Derived.Test.YtepjegfhlglajaaQEvalC
import Derived.Test.YtepjegfhlglajaaQF7
import Derived.WalkKit
import Derived.ProofKit
import Derived.OpenShut
import Derived.ShutString
import Derived.ChangeOld
import Derived.Below
import Derived.SizedLaws
namespace Go.Proofs.Ytepjegfhlglajaa.Q
set_option linter.unusedVariables false
open Go.RowKit Go.Proofs.YtepjegfhlglajaaW.PrintWords Go.Proofs.YtepjegfhlglajaaW.PrintLast Go.Proofs.YtepjegfhlglajaaW.PrintMore
/-- The cursor's offset at an index. -/
theorem cur_at {c : List Int} {n : List (List Int)} {a : List Int} {s : ByteArray} : ∀ (k : Nat), k < ((lx c n a (L s) 0).map Tk.s).length → ∃ off, off < s.size ∧ Cur c n a s ((lx c n a (L s) 0).map Tk.s) k off := by
  intro k
  induction k with
  | zero =>
    intro h
    refine ⟨0, ?_, cur_start s⟩
    apply Nat.lt_of_not_le
    intro h0
    have := cur_end (cur_start (c := c) (n := n) (a := a) s) (by omega)
    omega
  | succ k ih =>
    intro h
    obtain ⟨off, h1, h2⟩ := ih (by omega)
    obtain ⟨_, _, h3⟩ := cur_step h2 h1
    refine ⟨_, ?_, h3⟩
    apply Nat.lt_of_not_le
    intro h0
    have := cur_end h3 (by have := h3.1; omega)
    omega
theorem restarts_l0 (l : List S32) (hl : l.length ≤ 1048576) (k0 off : Nat) (hoff : off ≤ 1048576) (m : List S32) (hkl : k0 ≤ l.length) (hm : (l.drop k0) = m.map fun x => { x with f1 := x.f1 + off }) (hat : ∀ x ∈ m, 0 ≤ x.f1 ∧ x.f1 ≤ 1048576) :
    ∀ (d i : Nat), m.length - i ≤ d → i ≤ m.length → Ev (fun k => emendatelaw12_LexerRestarts.l0 k l k0 off m i) true := by
  have hlen : l.length = k0 + m.length := by
    have := congrArg List.length hm
    rw [List.length_drop, List.length_map] at this
    omega
  have hend : ∀ i : Nat, i = m.length → Ev (fun k => emendatelaw12_LexerRestarts.l0 k l k0 off m i) true := by
    intro i he
    refine Ev.step (f := fun _ => some true) (fun k => ?_) (Ev.now _)
    simp only [emendatelaw12_LexerRestarts.l0]
    rw [if_neg (by omega)]
  intro d
  induction d with
  | zero => intro i h1 h2; exact hend i (by omega)
  | succ d ih =>
    intro i h1 h2
    by_cases he : i = m.length
    · exact hend i he
    · have hlt : i < m.length := by omega
      have g1 : m[i]? = some m[i] := List.getElem?_eq_getElem hlt
      have g2 : l[k0 + i]? = some { m[i] with f1 := (m[i]).f1 + off } := by
        have := congrArg (fun z => z[i]?) hm
        simp only [List.getElem?_drop, List.getElem?_map, g1, Option.map_some] at this
        exact this
      have hx := hat m[i] (List.getElem_mem hlt)
      refine Ev.step (f := fun k => emendatelaw12_LexerRestarts.l0 k l k0 off m ((i + 1 : Nat) : Int)) (fun k => ?_) (ih (i + 1) (by omega) (by omega))
      simp only [emendatelaw12_LexerRestarts.l0]
      rw [if_pos (by omega), if_pos (by omega), wrap_id (x := (k0 : Int) + i) (by omega) (by omega), if_pos (by omega), if_pos (by omega), rdT_get g1, show ((k0 : Int) + i) = ((k0 + i : Nat) : Int) from by omega, rdT_get g2]
      rw [wrap_id (x := (m[i]).f1 + off) (by omega) (by omega), if_neg (by simp), wrap_id (by omega) (by omega)]
      norm_cast
theorem LexerRestarts_pure (c : List Int) (n : List (List Int)) (a : List Int) (s : ByteArray) (u : Int) (hrows : ∀ s : Int, 0 ≤ s → s < (n.length : Int) → (rd_L3 n s).length ≤ 9223372036854775807) (_ : s.size ≤ 140737488351232) (hu : (Lit.int .u8 u).wf = true) :
    ∃ k, emendatelaw12_LexerRestarts.f k c n a s u = some true := by
  have hj0 : Ev (fun k => emendatelaw12_LexerRestarts.j0 k s u true c n a) true := by
    refine Ev.step (f := fun _ => some true) (fun k => ?_) (Ev.now _)
    simp only [emendatelaw12_LexerRestarts.j0]
    rw [if_pos trivial]
  refine Ev.rounds (g := fun k => emendatelaw12_LexerRestarts.f k c n a s u) (behind_awake (behind_light hrows (fun hv hs => ?_) hj0))
  by_cases h0 : (s.size : Int) = 0
  · rw [show ((s.size : Int) == 0) = true from beq_iff_eq.2 h0]; exact hj0
  · rw [show ((s.size : Int) == 0) = false from beq_eq_false_iff_ne.2 h0]
    have hu0 : 0 ≤ u ∧ u ≤ 255 := by
      have := hu
      simp only [Lit.wf, Bool.and_eq_true, decide_eq_true_eq] at this
      have h1 : IntKind.u8.min = 0 := by decide
      have h2 : IntKind.u8.max = 255 := by decide
      rw [h1, h2] at this
      omega
    have hlen := lx_len c n a s (by omega)
    have hpos : 0 < ((lx c n a (L s) 0).map Tk.s).length := by
      have := (cur_step (cur_start (c := c) (n := n) (a := a) s) (by omega)).1
      omega
    generalize hl : (lx c n a (L s) 0).map Tk.s = l at hlen hpos
    have hw : wrap64 u = u := wrap_id (by omega) (by omega)
    have hmod : Int.tmod u (l.length : Int) = u % (l.length : Int) := Int.tmod_eq_emod_of_nonneg (by omega)
    have hq0 : 0 ≤ u % (l.length : Int) := Int.emod_nonneg _ (by omega)
    have hq1 : u % (l.length : Int) < (l.length : Int) := Int.emod_lt_of_pos _ (by omega)
    obtain ⟨q, hq⟩ := Int.eq_ofNat_of_zero_le hq0
    rw [hq] at hq0 hq1
    obtain ⟨off, o1, o2⟩ := cur_at (c := c) (n := n) (a := a) (s := s) q (by rw [hl]; omega)
    rw [hl] at o2
    obtain ⟨o3, o4, _⟩ := cur_step o2 o1
    have hlex := Lex_ev hv s (by omega)
    rw [hl] at hlex
    have hlex2 := Lex_ev hv (s.extract off s.size) (by rw [← L_length, L_extract, List.length_take, List.length_drop, L_length]; omega)
    have hL : L (s.extract off s.size) = (L s).drop off := by
      rw [L_extract, List.take_of_length_le (by rw [List.length_drop, L_length]; omega)]
    rw [hL] at hlex2
    have hsh : l.drop q = ((lx c n a ((L s).drop off) 0).map Tk.s).map fun x => { x with f1 := x.f1 + off } := by
      rw [o2.2.2.2]
      have := lx_shift (c := c) (n := n) (a := a) _ ((L s).drop off) 0 off (Nat.le_refl _)
      rw [Nat.zero_add] at this
      rw [this, List.map_map, List.map_map]
      refine List.map_congr_left fun x _ => ?_
      simp [Tk.s, Tk.sh]
    have hlm : ((lx c n a ((L s).drop off) 0).map Tk.s).length = l.length - q := by
      have := congrArg List.length hsh
      rw [List.length_drop, List.length_map] at this
      exact this.symm
    have hat : ∀ x ∈ (lx c n a ((L s).drop off) 0).map Tk.s, 0 ≤ x.f1 ∧ x.f1 ≤ 1048576 := by
      intro x hx
      have hm : ({ x with f1 := x.f1 + off } : S32) ∈ l.drop q := by rw [hsh]; exact List.mem_map.2 ⟨x, hx, rfl⟩
      obtain ⟨y, hy, rfl⟩ := List.mem_map.1 hx
      have hm2 : ({ y.s with f1 := y.s.f1 + off } : S32) ∈ l := List.mem_of_mem_drop hm
      obtain ⟨j, hj⟩ := List.getElem?_of_mem hm2
      have hjl : j < l.length := (List.getElem?_eq_some_iff.1 hj).1
      obtain ⟨of2, p1, p2⟩ := cur_at (c := c) (n := n) (a := a) (s := s) j (by rw [hl]; exact hjl)
      rw [hl] at p2
      obtain ⟨_, p3, _⟩ := cur_step p2 p1
      rw [hj] at p3
      injection p3 with p3
      have p4 := congrArg S32.f1 p3
      have e0 : (tko c n a s of2).s.f1 = (of2 : Int) := rfl
      simp only [e0] at p4
      have e1 : y.s.f1 = (y.at_ : Int) := rfl
      rw [e1] at p4 ⊢
      omega
    have hr := restarts_l0 l hlen q off (by omega) _ (by omega) hsh hat (((lx c n a ((L s).drop off) 0).map Tk.s).length) 0 (by omega) (by omega)
    have hj1 : Ev (fun k => emendatelaw12_LexerRestarts.j1 k s l q off false c n a) true := by
      refine Ev.step (f := fun k => (lexer_Lex.f k c n a (s.extract off s.size)).bind fun t274 => (if (t274.length : Int) = (wrap64 ((l.length : Int) - q)) then (emendatelaw12_LexerRestarts.l0 k l q off t274 0) else (some false))) (fun k => ?_) (Ev.bind hlex2 ?_)
      · simp only [emendatelaw12_LexerRestarts.j1]
        rw [if_neg (by simp), if_pos (by omega), if_pos (by omega), toNat_cast]
      · refine Ev.congr (fun k => ?_) hr
        rw [wrap_id (by omega) (by omega), if_pos (by rw [hlm]; omega)]
        rfl
    refine Ev.step (f := fun k => (lexer_Lex.f k c n a s).bind fun t270 => (if (t270.length : Int) = 0 then (some false) else (if 0 ≤ (Int.tmod (wrap64 (u)) (t270.length : Int)) then (if (Int.tmod (wrap64 (u)) (t270.length : Int)) < (t270.length : Int) then (if ((rd_T32 t270 (Int.tmod (wrap64 (u)) (t270.length : Int))).f1) < 0 then (emendatelaw12_LexerRestarts.j1 k s t270 (Int.tmod (wrap64 (u)) (t270.length : Int)) ((rd_T32 t270 (Int.tmod (wrap64 (u)) (t270.length : Int))).f1) true c n a) else (emendatelaw12_LexerRestarts.j1 k s t270 (Int.tmod (wrap64 (u)) (t270.length : Int)) ((rd_T32 t270 (Int.tmod (wrap64 (u)) (t270.length : Int))).f1) (decide (((rd_T32 t270 (Int.tmod (wrap64 (u)) (t270.length : Int))).f1) > (s.size : Int))) c n a)) else (none)) else (none)))) (fun k => ?_) (Ev.bind hlex ?_)
    · simp only [emendatelaw12_LexerRestarts.j0]
      rw [if_neg (by simp)]
    · refine Ev.congr (fun k => ?_) hj1
      have e0 : (tko c n a s off).s.f1 = (off : Int) := rfl
      rw [hw, hmod, hq, if_neg (by omega)]
      rw [if_pos (by omega), if_pos (by omega), rdT_get o4, e0, if_neg (by omega), decide_eq_false (by omega)]
end Go.Proofs.Ytepjegfhlglajaa.Q
namespace Go.Proofs.Ytepjegfhlglajaa.LexerRestartsRow
open Go.ChangeShapes Go.WideShapes Go.ChangeAt Go.RowKit Go.Proofs.Ytepjegfhlglajaa.Q Go.Proofs.YtepjegfhlglajaaW.PrintWords Go.Proofs.YtepjegfhlglajaaW.PrintLast Go.Proofs.YtepjegfhlglajaaW.PrintMore
open Go.ChangeMaps (open_string shut_string)
set_option linter.unusedVariables false
theorem own : ownKnob Try.prog.godebug = none := by kernel_rfl
theorem laidOut : laidOutB Try.prog = true := by kernel_rfl
set_option maxRecDepth 100000 in
theorem lifted (os : Os) (started : os.Started) (H : Type) (enc : TypeId × Value → H) :
    ReturnsInHanded {} Try.checked os 7 .any (Rows.lexerRestartsSpec.pre6 enc Try.prog Try.f7 Rows.lexerRestartsRow.domain false) (Rows.lexerRestartsSpec.post enc Try.prog Try.f7 false true false false) := by
  refine returnsInHanded_of_change_sized (C := Try.checked) own started (by kernel_rfl) Try.func7
    (ChangeSpec.witness6 (enc := enc) (C := Try.checked) false ⟨#[], #[.agg #[.slice none 0 0, .slice none 0 0, .slice none 0 0], .string ByteArray.empty, .int .u8 0], []⟩ 8 (by kernel_rfl) (by kernel_rfl) (by kernel_rfl) (by kernel_rfl)) ?_
  intro W base args ds gs before hval0 hW hcnd hsz0 _
  have hsz : (DataW.weightsEach Try.prog (Try.f7.params.toList ++ Rows.lexerRestartsSpec.plain.varTypes Try.prog) (ds ++ gs)).all (· ≤ reachBytes) = true := hsz0
  have hval : ∀ (j : Nat) t v, Try.f7.params[j]? = some t → args[j]? = some v → Value.okWide Try.prog W .any base t v := hval0
  have hW' := hW
  obtain ⟨p, q, hA0, hV, rfl, hfz, hnd⟩ := hW
  have hA : DataW.TrodAll enc Try.prog W 0 (fun _ => true) true Try.f7.params.toList args.toList ds p := hA0
  rw [Try.params7] at hA hval hsz
  obtain ⟨v0, vs0, d0, ds0, p0, q0, hargs, rfl, rfl, h0, r0⟩ := trodAll_cons hA
  obtain ⟨v1, vs1, d1, ds1, p1, q1, rfl, rfl, rfl, h1, r1⟩ := trodAll_cons r0
  obtain ⟨v2, vs2, d2, ds2, p2, q2, rfl, rfl, rfl, h2, r2⟩ := trodAll_cons r1
  obtain ⟨rfl, rfl, rfl⟩ := trodAll_nil r2
  obtain rfl : args = #[v0, v1, v2] := by cases args; simp_all
  obtain ⟨rfl, rfl⟩ := trodVars_none hV
  have k0 := h0
  have lt0 : ∀ x ∈ p0, x.block < W.heap.size := by obtain ⟨m, hm⟩ := k0; exact DataW.trod_lt m _ _ _ hm
  obtain ⟨A0_0, c0_0, l0_0, A0_1, c0_1, l0_1, A0_2, c0_2, l0_2, rfl, hr0_0, hc0_0, hr0_1, hc0_1, hr0_2, hc0_2⟩ := open_dfa (hval 0 25 v0 rfl rfl) h0
  obtain ⟨a1, rfl, rfl, rfl, y1⟩ := open_string Try.underlying9 (hval 1 9 v1 rfl rfl) h1
  have w1 : a1.size ≤ 140737488351232 := by
    have z := sized_string hsz (j := 1) (t := 9) rfl rfl
    rw [Array.length_toList] at z
    exact z
  obtain ⟨a2, rfl, rfl, rfl, w2⟩ := open_int Try.underlying5 (hval 2 5 v2 rfl rfl) h2
  clear hA0 hval0 hsz0
  obtain ⟨k, h⟩ := LexerRestarts_pure l0_0 l0_1 l0_2 a1 a2 (rows_bound hr0_1) w1 w2
  refine (emendatelaw12_LexerRestarts.calls k _ _ l0_0 _ _ l0_1 _ _ l0_2 a1 a2 true W hr0_0 hc0_0 hr0_1 hc0_1 hr0_2 hc0_2 h).mono fun e W' ⟨he, bel⟩ => ?_
  subst he
  exact ⟨_, rfl, _, _, _, [], _, [], hW', trodAll_mk1 (shut_bool Try.underlying4 _), (trodAll_cons_mk (Below.trod laidOut (by kernel_rfl) (of_decide_eq_true (by kernel_rfl)) k0 bel lt0) (trodAll_cons_mk (shut_string Try.underlying9 y1) (trodAll_cons_mk (shut_int Try.underlying5 w2) trodAll_mk0))), rfl, bel.frame _, fun h => by cases h⟩
theorem over : Rows.lexerRestartsRow.holds Try.pinned (OpenSpec.ofChange Rows.lexerRestartsSpec) :=
  OpenClaim.holds_of_wide 7 Try.f7 rfl rfl rfl rfl rfl rfl rfl ⟨rfl, rfl, rfl, rfl, rfl⟩ rfl rfl rfl rfl rfl (by kernel_rfl) Try.func7 (by kernel_rfl)
    (of_decide_eq_true (by kernel_rfl)) (by unfold Func.isWrapper; first | (rw [if_pos (by decide +kernel)]; kernel_rfl) | (rw [if_neg (by decide +kernel)]; exact ⟨rfl, rfl⟩))
    (fun os started H enc _ => lifted os started H enc)
theorem proved : Rows.LexerRestartsSaid := over
#print axioms proved
end Go.Proofs.Ytepjegfhlglajaa.LexerRestartsRow
namespace Go.Proofs.Ytepjegfhlglajaa
/-- The row, under a short name, for the claim. -/
theorem lexerRestarts_holds : Rows.LexerRestartsSaid := LexerRestartsRow.proved
end Go.Proofs.Ytepjegfhlglajaa
