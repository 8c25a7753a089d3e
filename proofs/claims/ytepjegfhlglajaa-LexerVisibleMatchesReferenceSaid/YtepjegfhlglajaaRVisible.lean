/- Visible drops exactly the tokens of skip definitions, and Text concatenates: for every specification and list of tokens the law LexerVisibleMatchesReference returns true, and its arguments read as before. No condition. -/
import Derived.Test.YtepjegfhlglajaaRows
import Derived.Test.YtepjegfhlglajaaQOpenB
import Derived.Test.YtepjegfhlglajaaQMathB
import Derived.Test.YtepjegfhlglajaaQEvalC
import Derived.Test.YtepjegfhlglajaaQF11
import Derived.Test.YtepjegfhlglajaaQF30
import Derived.Test.YtepjegfhlglajaaQF31
import Derived.Test.YtepjegfhlglajaaQF32
import Derived.WalkKit
import Derived.ProofKit
import Derived.OpenShut
import Derived.ShutString
import Derived.ChangeOld
import Derived.Below
import Derived.SizedLaws
namespace Go.Proofs.Ytepjegfhlglajaa.Q
set_option linter.unusedVariables false
open Go.RowKit Go.Proofs.YtepjegfhlglajaaW.PrintWords Go.Proofs.YtepjegfhlglajaaW.PrintLast Go.Proofs.YtepjegfhlglajaaW.PrintMore
/-- Is a token kept? -/
def vis (ds : List S70) (x : S32) : Bool := !(decide (0 ≤ x.f0) && (decide (x.f0 < (ds.length : Int)) && decide ((rd_T70 ds x.f0).f1 = 2)))
theorem keep_eq (x : S32) : (⟨x.f0, x.f1, x.f2, x.f3⟩ : S32) = x := rfl
theorem filter_step {p : S32 → Bool} {l : List S32} {i : Nat} (h : i < l.length) : (l.take (i + 1)).filter p = (l.take i).filter p ++ if p l[i] then [l[i]] else [] := by
  rw [List.take_succ_eq_append_getElem h, List.filter_append]
  by_cases hp : p l[i] <;> simp [hp]
theorem Visible_l0 (ds : List S70) (b1 : Bool) (b2 b3 : Int) (l : List S32) (hl : l.length ≤ 1048576) : ∀ (m i : Nat) (out : List S32), l.length - i ≤ m → i ≤ l.length → out = (l.take i).filter (vis ds) →
    Ev (fun k => lexer_Visible.l0 k out l (l.length : Int) i ds b1 b2 b3) (l.filter (vis ds)) := by
  have hend : ∀ (i : Nat) (out : List S32), i = l.length → out = (l.take i).filter (vis ds) → Ev (fun k => lexer_Visible.l0 k out l (l.length : Int) i ds b1 b2 b3) (l.filter (vis ds)) := by
    intro i out he ho
    rw [he, List.take_length] at ho
    rw [← ho]
    refine Ev.step (f := fun _ => some out) (fun k => ?_) (Ev.now _)
    simp only [lexer_Visible.l0]
    rw [if_neg (by omega)]
  intro m
  induction m with
  | zero => intro i out h1 h2 h3; exact hend i out (by omega) h3
  | succ m ih =>
    intro i out h1 h2 h3
    by_cases he : i = l.length
    · exact hend i out he h3
    · have hlt : i < l.length := by omega
      have g : l[i]? = some l[i] := List.getElem?_eq_getElem hlt
      have hol : out.length ≤ i := by rw [h3]; have := List.length_filter_le (vis ds) (l.take i); rw [List.length_take] at this; omega
      have hst := filter_step (p := vis ds) hlt
      rw [← h3] at hst
      have hkeep : vis ds l[i] = true → Ev (fun k => lexer_Visible.l0 k (out ++ [l[i]]) l (l.length : Int) ((i + 1 : Nat) : Int) ds b1 b2 b3) (l.filter (vis ds)) := fun hv => ih (i + 1) _ (by omega) (by omega) (by rw [hst, if_pos hv])
      have hdrop : vis ds l[i] = false → Ev (fun k => lexer_Visible.l0 k out l (l.length : Int) ((i + 1 : Nat) : Int) ds b1 b2 b3) (l.filter (vis ds)) := fun hv => ih (i + 1) _ (by omega) (by omega) (by rw [hst, hv]; simp)
      have hw : wrap64 ((i : Int) + 1) = ((i + 1 : Nat) : Int) := by rw [wrap_id (by omega) (by omega)]; norm_cast
      generalize hx : l[i] = x at *
      by_cases c1 : x.f0 < 0
      · refine Ev.step (fun k => ?_) (hkeep (by simp only [vis]; rw [decide_eq_false (by omega)]; rfl))
        simp only [lexer_Visible.l0]
        rw [if_pos (by omega), if_pos (by omega), if_pos (by omega), rdT_get g, if_pos c1, if_pos (by omega), hw]
      · by_cases c2 : x.f0 ≥ (ds.length : Int)
        · refine Ev.step (fun k => ?_) (hkeep (by simp only [vis]; rw [decide_eq_false (p := x.f0 < (ds.length : Int)) (by omega)]; simp))
          simp only [lexer_Visible.l0]
          rw [if_pos (by omega), if_pos (by omega), if_pos (by omega), rdT_get g, if_neg c1, if_pos c2, if_pos (by omega), hw]
        · by_cases c3 : (rd_T70 ds x.f0).f1 = 2
          · refine Ev.step (fun k => ?_) (hdrop (by simp only [vis]; rw [decide_eq_true c3, decide_eq_true (p := x.f0 < (ds.length : Int)) (by omega), decide_eq_true (by omega)]; rfl))
            simp only [lexer_Visible.l0]
            rw [if_pos (by omega), if_pos (by omega), if_pos (by omega), rdT_get g, if_neg c1, if_neg c2, if_pos (by omega), if_pos (by omega), if_pos c3, hw]
          · refine Ev.step (fun k => ?_) (hkeep (by simp only [vis]; rw [decide_eq_false c3]; simp))
            simp only [lexer_Visible.l0]
            rw [if_pos (by omega), if_pos (by omega), if_pos (by omega), rdT_get g, if_neg c1, if_neg c2, if_pos (by omega), if_pos (by omega), if_neg c3, if_pos (by omega), hw]
theorem Visible_ev (ds : List S70) (b1 : Bool) (b2 b3 : Int) (l : List S32) (hl : l.length ≤ 1048576) : Ev (fun k => lexer_Visible.f k ds b1 b2 b3 l) (l.filter (vis ds)) :=
  Visible_l0 ds b1 b2 b3 l hl l.length 0 [] (by omega) (by omega) rfl
theorem rVisible_l0 (ds : List S70) (b1 : Bool) (b2 b3 : Int) (l : List S32) (hl : l.length ≤ 1048576) : ∀ (m i : Nat) (out : List S32), l.length - i ≤ m → i ≤ l.length → out = (l.take i).filter (vis ds) →
    Ev (fun k => emendateref12_Visible.l0 k l out i ds b1 b2 b3) (l.filter (vis ds)) := by
  have hend : ∀ (i : Nat) (out : List S32), i = l.length → out = (l.take i).filter (vis ds) → Ev (fun k => emendateref12_Visible.l0 k l out i ds b1 b2 b3) (l.filter (vis ds)) := by
    intro i out he ho
    rw [he, List.take_length] at ho
    rw [← ho]
    refine Ev.step (f := fun _ => some out) (fun k => ?_) (Ev.now _)
    simp only [emendateref12_Visible.l0]
    rw [if_neg (by omega)]
  intro m
  induction m with
  | zero => intro i out h1 h2 h3; exact hend i out (by omega) h3
  | succ m ih =>
    intro i out h1 h2 h3
    by_cases he : i = l.length
    · exact hend i out he h3
    · have hlt : i < l.length := by omega
      have g : l[i]? = some l[i] := List.getElem?_eq_getElem hlt
      have hol : out.length ≤ i := by rw [h3]; have := List.length_filter_le (vis ds) (l.take i); rw [List.length_take] at this; omega
      have hst := filter_step (p := vis ds) hlt
      rw [← h3] at hst
      have hkeep : vis ds l[i] = true → Ev (fun k => emendateref12_Visible.l0 k l (out ++ [l[i]]) ((i + 1 : Nat) : Int) ds b1 b2 b3) (l.filter (vis ds)) := fun hv => ih (i + 1) _ (by omega) (by omega) (by rw [hst, if_pos hv])
      have hdrop : vis ds l[i] = false → Ev (fun k => emendateref12_Visible.l0 k l out ((i + 1 : Nat) : Int) ds b1 b2 b3) (l.filter (vis ds)) := fun hv => ih (i + 1) _ (by omega) (by omega) (by rw [hst, hv]; simp)
      have hw : wrap64 ((i : Int) + 1) = ((i + 1 : Nat) : Int) := by rw [wrap_id (by omega) (by omega)]; norm_cast
      generalize hx : l[i] = x at *
      by_cases c1 : x.f0 ≥ 0
      · by_cases c2 : x.f0 < (ds.length : Int)
        · by_cases c3 : (rd_T70 ds x.f0).f1 = 2
          · refine Ev.step (fun k => ?_) (hdrop (by simp only [vis]; rw [decide_eq_true c3, decide_eq_true c2, decide_eq_true (by omega)]; rfl))
            simp only [emendateref12_Visible.l0]
            rw [if_pos (by omega), if_pos (by omega), rdT_get g, if_pos c1, if_pos c2, if_pos (by omega), if_pos c3, hw]
          · refine Ev.step (fun k => ?_) (hkeep (by simp only [vis]; rw [decide_eq_false c3]; simp))
            simp only [emendateref12_Visible.l0]
            rw [if_pos (by omega), if_pos (by omega), rdT_get g, if_pos c1, if_pos c2, if_pos (by omega), if_neg c3, if_pos (by omega), hw]
        · refine Ev.step (fun k => ?_) (hkeep (by simp only [vis]; rw [decide_eq_false c2]; simp))
          simp only [emendateref12_Visible.l0]
          rw [if_pos (by omega), if_pos (by omega), rdT_get g, if_pos c1, if_neg c2, if_pos (by omega), hw]
      · refine Ev.step (fun k => ?_) (hkeep (by simp only [vis]; rw [decide_eq_false (by omega)]; rfl))
        simp only [emendateref12_Visible.l0]
        rw [if_pos (by omega), if_pos (by omega), rdT_get g, if_neg c1, if_pos (by omega), hw]
theorem rVisible_ev (ds : List S70) (b1 : Bool) (b2 b3 : Int) (l : List S32) (hl : l.length ≤ 1048576) : Ev (fun k => emendateref12_Visible.f k ds b1 b2 b3 l) (l.filter (vis ds)) :=
  rVisible_l0 ds b1 b2 b3 l hl l.length 0 [] (by omega) (by omega) rfl

theorem rText_l0 (l : List S32) (hl : l.length ≤ 1048576) (hc : (cat l).length ≤ 1048576) : ∀ (m i : Nat) (acc : ByteArray), l.length - i ≤ m → i ≤ l.length → L acc = cat (l.take i) → Ev (fun k => emendateref12_Text.l0 k l acc i) (S (cat l)) := by
  intro m
  induction m with
  | zero =>
    intro i acc hm hi ha
    rw [List.take_of_length_le (by omega)] at ha
    rw [← ha, S_L]
    exact Ev.step (f := fun _ => some acc) (fun k => by simp only [emendateref12_Text.l0]; rw [if_neg (by omega)]) (Ev.now _)
  | succ m ih =>
    intro i acc hm hi ha
    by_cases he : i = l.length
    · rw [List.take_of_length_le (by omega)] at ha
      rw [← ha, S_L]
      exact Ev.step (f := fun _ => some acc) (fun k => by simp only [emendateref12_Text.l0]; rw [if_neg (by omega)]) (Ev.now _)
    · have hlt : i < l.length := by omega
      have hg : l[i]? = some l[i] := List.getElem?_eq_getElem hlt
      have ht : l.take (i + 1) = l.take i ++ [l[i]] := List.take_succ_eq_append_getElem hlt
      have hsz : acc.size + (l[i]).f2.size ≤ 1048576 := by
        have h1 : cat l = cat (l.take (i + 1)) ++ cat (l.drop (i + 1)) := by rw [← cat_append, List.take_append_drop]
        have h2 := congrArg List.length h1
        rw [ht, cat_append, ← ha] at h2
        simp only [List.length_append, L_length, cat, List.flatMap_cons, List.flatMap_nil, List.append_nil] at h2
        unfold cat at hc
        omega
      refine Ev.step (f := fun k => emendateref12_Text.l0 k l (acc ++ (l[i]).f2) ((i + 1 : Nat) : Int)) (fun k => ?_) (ih (i + 1) _ (by omega) (by omega) ?_)
      · simp only [emendateref12_Text.l0]
        rw [if_pos (by omega), if_pos (by omega), rdT_get hg, if_pos (by omega), wrap_id (by omega) (by omega)]
        norm_cast
      · rw [L_append, ha, ht, cat_append]; simp [cat]
theorem rText_ev (l : List S32) (hl : l.length ≤ 1048576) (hc : (cat l).length ≤ 1048576) : Ev (fun k => emendateref12_Text.f k l) (S (cat l)) :=
  rText_l0 l hl hc l.length 0 ⟨#[]⟩ (by omega) (by omega) rfl

theorem LexerVisibleMatchesReference_pure (ds : List S70) (b1 : Bool) (b2 b3 : Int) (l : List S32) (_ : True) (hok : l.length * 40 ≤ 140737488351232 ∧ ∀ x ∈ l, x.f2.size ≤ 140737488351232) :
    ∃ k, emendatelaw12_LexerVisibleMatchesReference.f k ds b1 b2 b3 l = some true := by
  have hj0 : Ev (fun k => emendatelaw12_LexerVisibleMatchesReference.j0 k l true ds b1 b2 b3) true := by
    refine Ev.step (f := fun _ => some true) (fun k => ?_) (Ev.now _)
    simp only [emendatelaw12_LexerVisibleMatchesReference.j0]
    rw [if_pos trivial]
  refine Ev.rounds (g := fun k => emendatelaw12_LexerVisibleMatchesReference.f k ds b1 b2 b3 l) (behind_awake ?_)
  by_cases h0 : (ds.length : Int) > 60
  · exact Ev.congr (fun k => if_pos h0) hj0
  · refine Ev.congr (fun k => if_neg h0) ?_
    by_cases h1 : (l.length : Int) > 60
    · rw [decide_eq_true h1]; exact hj0
    · rw [decide_eq_false h1]
      have hwork : (cat l).length ≤ 2000 → Ev (fun k => (lexer_Visible.f k ds b1 b2 b3 l).bind fun t325 => ((emendateref12_Visible.f k ds b1 b2 b3 l).bind fun t328 => ((emendateref12_Same.f k t325 t328).bind fun t331 => (if t331 = true then ((lexer_Visible.f k ds b1 b2 b3 t325).bind fun t332 => ((emendateref12_Same.f k t332 t325).bind fun t335 => (if t335 = true then ((lexer_Text.f k l).bind fun t336 => ((emendateref12_Text.f k l).bind fun t337 => (some (t336.toList == t337.toList)))) else (some false)))) else (some false))))) true := by
        intro hc
        have hfl : (l.filter (vis ds)).length ≤ 1048576 := by have := List.length_filter_le (vis ds) l; omega
        refine Ev.bind (Visible_ev ds b1 b2 b3 l (by omega)) (Ev.bind (rVisible_ev ds b1 b2 b3 l (by omega)) (Ev.bind (Same_ev rfl hfl) ?_))
        refine Ev.congr (fun k => if_pos rfl) (Ev.bind (Visible_ev ds b1 b2 b3 _ hfl) (Ev.bind (Same_ev (by rw [List.filter_filter]; simp) (by have := List.length_filter_le (vis ds) (l.filter (vis ds)); omega)) ?_))
        refine Ev.congr (fun k => if_pos rfl) (Ev.bind (Text_ev l (by omega) (by omega)) (Ev.bind (rText_ev l (by omega) (by omega)) ?_))
        exact Ev.congr (fun k => by rw [beq_self_eq_true]) (Ev.now true)
      have hloop : ∀ (m i : Nat), l.length - i ≤ m → i ≤ l.length → (cat (l.take i)).length ≤ 2000 → Ev (fun k => emendatelaw12_LexerVisibleMatchesReference.l0 k l ((cat (l.take i)).length : Int) i ds b1 b2 b3) true := by
        have hend : ∀ i : Nat, i = l.length → (cat (l.take i)).length ≤ 2000 → Ev (fun k => emendatelaw12_LexerVisibleMatchesReference.l0 k l ((cat (l.take i)).length : Int) i ds b1 b2 b3) true := by
          intro i he hc
          rw [he, List.take_length] at hc
          refine Ev.step (fun k => ?_) (hwork hc)
          simp only [emendatelaw12_LexerVisibleMatchesReference.l0]
          rw [if_neg (by omega)]
        intro m
        induction m with
        | zero => intro i h2 h3 h4; exact hend i (by omega) h4
        | succ m ih =>
          intro i h2 h3 h4
          by_cases he : i = l.length
          · exact hend i he h4
          · have hlt : i < l.length := by omega
            have g : l[i]? = some l[i] := List.getElem?_eq_getElem hlt
            have ht : l.take (i + 1) = l.take i ++ [l[i]] := List.take_succ_eq_append_getElem hlt
            have hsz := hok.2 l[i] (List.getElem_mem hlt)
            have hcl : (cat (l.take (i + 1))).length = (cat (l.take i)).length + (l[i]).f2.size := by
              rw [ht, cat_append, List.length_append]
              simp [cat, L_length]
            by_cases hb : (cat (l.take (i + 1))).length ≤ 2000
            · refine Ev.step (fun k => ?_) (ih (i + 1) (by omega) (by omega) hb)
              simp only [emendatelaw12_LexerVisibleMatchesReference.l0]
              rw [if_pos (by omega), if_pos (by omega), rdT_get g, wrap_id (x := ((cat (l.take i)).length : Int) + (l[i]).f2.size) (by omega) (by omega), if_neg (by omega), wrap_id (by omega) (by omega), hcl]
              norm_cast
            · refine Ev.step (f := fun _ => some true) (fun k => ?_) (Ev.now _)
              simp only [emendatelaw12_LexerVisibleMatchesReference.l0]
              rw [if_pos (by omega), if_pos (by omega), rdT_get g, wrap_id (x := ((cat (l.take i)).length : Int) + (l[i]).f2.size) (by omega) (by omega), if_pos (by omega)]
      refine Ev.step (fun k => ?_) (hloop l.length 0 (by omega) (by omega) (by simp [cat]))
      simp only [emendatelaw12_LexerVisibleMatchesReference.j0]
      rw [if_neg (by simp)]
      rfl
end Go.Proofs.Ytepjegfhlglajaa.Q
namespace Go.Proofs.Ytepjegfhlglajaa.LexerVisibleMatchesReferenceRow
open Go.ChangeShapes Go.WideShapes Go.ChangeAt Go.RowKit Go.Proofs.Ytepjegfhlglajaa.Q Go.Proofs.YtepjegfhlglajaaW.PrintWords Go.Proofs.YtepjegfhlglajaaW.PrintLast Go.Proofs.YtepjegfhlglajaaW.PrintMore
open Go.ChangeMaps (open_string shut_string)
set_option linter.unusedVariables false
theorem own : ownKnob Try.prog.godebug = none := by kernel_rfl
theorem laidOut : laidOutB Try.prog = true := by kernel_rfl
set_option maxRecDepth 100000 in
theorem lifted (os : Os) (started : os.Started) (H : Type) (enc : TypeId × Value → H) :
    ReturnsInHanded {} Try.checked os 11 .any (Rows.lexerVisibleMatchesReferenceSpec.pre6 enc Try.prog Try.f11 Rows.lexerVisibleMatchesReferenceRow.domain false) (Rows.lexerVisibleMatchesReferenceSpec.post enc Try.prog Try.f11 false true false false) := by
  refine returnsInHanded_of_change_sized (C := Try.checked) own started (by kernel_rfl) Try.func11
    (ChangeSpec.witness6 (enc := enc) (C := Try.checked) false ⟨#[], #[.agg #[.slice none 0 0, .bool false, .int .i64 0, .int .i64 0], .slice none 0 0], []⟩ 8 (by kernel_rfl) (by kernel_rfl) (by kernel_rfl) (by kernel_rfl)) ?_
  intro W base args ds gs before hval0 hW hcnd hsz0 _
  have hsz : (DataW.weightsEach Try.prog (Try.f11.params.toList ++ Rows.lexerVisibleMatchesReferenceSpec.plain.varTypes Try.prog) (ds ++ gs)).all (· ≤ reachBytes) = true := hsz0
  have hval : ∀ (j : Nat) t v, Try.f11.params[j]? = some t → args[j]? = some v → Value.okWide Try.prog W .any base t v := hval0
  have hW' := hW
  obtain ⟨p, q, hA0, hV, rfl, hfz, hnd⟩ := hW
  have hA : DataW.TrodAll enc Try.prog W 0 (fun _ => true) true Try.f11.params.toList args.toList ds p := hA0
  rw [Try.params11] at hA hval hsz
  obtain ⟨v0, vs0, d0, ds0, p0, q0, hargs, rfl, rfl, h0, r0⟩ := trodAll_cons hA
  obtain ⟨v1, vs1, d1, ds1, p1, q1, rfl, rfl, rfl, h1, r1⟩ := trodAll_cons r0
  obtain ⟨rfl, rfl, rfl⟩ := trodAll_nil r1
  obtain rfl : args = #[v0, v1] := by cases args; simp_all
  obtain ⟨rfl, rfl⟩ := trodVars_none hV
  have k0 := h0
  have lt0 : ∀ x ∈ p0, x.block < W.heap.size := by obtain ⟨m, hm⟩ := k0; exact DataW.trod_lt m _ _ _ hm
  have sz0 := sized_arg hsz (j := 0) (t := 53) rfl rfl
  obtain ⟨A0_0, c0_0, l0_0, a0_1, a0_2, a0_3, rfl, hr0_0, hc0_0, w0⟩ := open_spec (hval 0 53 v0 rfl rfl) h0
  have k1 := h1
  have lt1 : ∀ x ∈ p1, x.block < W.heap.size := by obtain ⟨m, hm⟩ := k1; exact DataW.trod_lt m _ _ _ hm
  have sz1 := sized_arg hsz (j := 1) (t := 29) rfl rfl
  obtain ⟨A1, c1, l1, rfl, hr1, hc1, w1⟩ := open_toks (hval 1 29 v1 rfl rfl) h1
  clear hA0 hval0 hsz0
  obtain ⟨k, h⟩ := LexerVisibleMatchesReference_pure l0_0 a0_1 a0_2 a0_3 l1 (w0 sz0) (w1 sz1)
  refine (emendatelaw12_LexerVisibleMatchesReference.calls k _ _ l0_0 a0_1 a0_2 a0_3 _ _ l1 true W hr0_0 hc0_0 hr1 hc1 h).mono fun e W' ⟨he, bel⟩ => ?_
  subst he
  exact ⟨_, rfl, _, _, _, [], _, [], hW', trodAll_mk1 (shut_bool Try.underlying4 _), (trodAll_cons_mk (Below.trod laidOut (by kernel_rfl) (of_decide_eq_true (by kernel_rfl)) k0 bel lt0) (trodAll_cons_mk (Below.trod laidOut (by kernel_rfl) (of_decide_eq_true (by kernel_rfl)) k1 bel lt1) trodAll_mk0)), rfl, bel.frame _, fun h => by cases h⟩
theorem over : Rows.lexerVisibleMatchesReferenceRow.holds Try.pinned (OpenSpec.ofChange Rows.lexerVisibleMatchesReferenceSpec) :=
  OpenClaim.holds_of_wide 11 Try.f11 rfl rfl rfl rfl rfl rfl rfl ⟨rfl, rfl, rfl, rfl, rfl⟩ rfl rfl rfl rfl rfl (by kernel_rfl) Try.func11 (by kernel_rfl)
    (of_decide_eq_true (by kernel_rfl)) (by unfold Func.isWrapper; first | (rw [if_pos (by decide +kernel)]; kernel_rfl) | (rw [if_neg (by decide +kernel)]; exact ⟨rfl, rfl⟩))
    (fun os started H enc _ => lifted os started H enc)
theorem proved : Rows.LexerVisibleMatchesReferenceSaid := over
#print axioms proved
end Go.Proofs.Ytepjegfhlglajaa.LexerVisibleMatchesReferenceRow
namespace Go.Proofs.Ytepjegfhlglajaa
/-- The row, under a short name, for the claim. -/
theorem lexerVisibleMatchesReference_holds : Rows.LexerVisibleMatchesReferenceSaid := LexerVisibleMatchesReferenceRow.proved
end Go.Proofs.Ytepjegfhlglajaa
