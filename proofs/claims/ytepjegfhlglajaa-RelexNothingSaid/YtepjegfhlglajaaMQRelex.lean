/- What incremental scanning computes: the program's and the reference's, on texts of at most 2000 bytes. The size of the text is the condition, told in each law. -/
import Derived.Test.YtepjegfhlglajaaMQMathB
import Derived.Test.YtepjegfhlglajaaMQEvalB
import Derived.Test.YtepjegfhlglajaaMQ0
import Derived.Test.YtepjegfhlglajaaMQF18
import Derived.Test.YtepjegfhlglajaaMQF19
import Derived.Test.YtepjegfhlglajaaMQF21
import Derived.Test.YtepjegfhlglajaaMQF36
import Derived.Test.YtepjegfhlglajaaMQF25
import Derived.Test.YtepjegfhlglajaaMQF20
import Derived.Test.YtepjegfhlglajaaMQF34
import Derived.Test.YtepjegfhlglajaaMQF47
import Derived.Test.YtepjegfhlglajaaMQF26
import Derived.OpenShut
namespace Go.Proofs.Ytepjegfhlglajaa.Q
set_option linter.unusedVariables false
open Go.RowKit Go.Proofs.YtepjegfhlglajaaW.PrintWords Go.Proofs.YtepjegfhlglajaaW.PrintLast Go.Proofs.YtepjegfhlglajaaW.PrintMore
section
variable {c : List Int} {n : List (List Int)} {a : List Int}
/-- The tokens of a text. -/
def lxs (c : List Int) (n : List (List Int)) (a : List Int) (s : ByteArray) : List S32 := (lx c n a (L s) 0).map Tk.s
theorem cur_zero (s : ByteArray) : Cur c n a s (lxs c n a s) 0 0 := cur_start s
theorem cur_exists (s : ByteArray) : ∀ i, i ≤ (lxs c n a s).length → ∃ off, Cur c n a s (lxs c n a s) i off := by
  intro i
  induction i with
  | zero => intro _; exact ⟨0, cur_zero s⟩
  | succ i ih =>
    intro h
    obtain ⟨off, h1⟩ := ih (by omega)
    have hlt : off < s.size := by
      apply Nat.lt_of_not_le
      intro h0
      have := cur_end h1 (Nat.le_antisymm h1.1 h0)
      omega
    exact ⟨_, (cur_step h1 hlt).2.2⟩
theorem cur_len {s : ByteArray} {l : List S32} {i off : Nat} (h : Cur c n a s l i off) (hi : i < l.length) : off < s.size := by
  apply Nat.lt_of_not_le
  intro h0
  have := cur_end h (Nat.le_antisymm h.1 h0)
  omega
theorem cur_f1 {s : ByteArray} {l : List S32} {i off : Nat} (h : Cur c n a s l i off) (hi : i < l.length) : (rd_T32 l (i : Int)).f1 = (off : Int) := by
  rw [rdT_get (cur_step h (cur_len h hi)).2.1]
  rfl
theorem cur_det {s : ByteArray} {l : List S32} {i off off' : Nat} (h : Cur c n a s l i off) (h' : Cur c n a s l i off') : off = off' := by
  by_cases hi : i < l.length
  · have e1 := cur_f1 h hi
    have e2 := cur_f1 h' hi
    rw [e1] at e2
    exact Int.ofNat.inj e2
  · have e1 : ¬ off < s.size := fun hh => hi (cur_step h hh).1
    have e2 : ¬ off' < s.size := fun hh => hi (cur_step h' hh).1
    have := h.1
    have := h'.1
    omega
theorem cur_lt {s : ByteArray} {l : List S32} {i off : Nat} (h : Cur c n a s l i off) : ∀ {j off' : Nat}, Cur c n a s l j off' → i < j → (∀ k, k ≤ l.length → ∃ o, Cur c n a s l k o) → off < off' := by
  intro j
  induction j with
  | zero => intro off' _ h0; omega
  | succ j ih =>
    intro off' h' hij hex
    have hj : j < l.length := by have := h'.2.2.1; omega
    obtain ⟨o, ho⟩ := hex j (by omega)
    have hlt := cur_len ho hj
    obtain ⟨_, _, hs⟩ := cur_step ho hlt
    have hl := tko_len (c := c) (n := n) (a := a) hlt
    have he := cur_det hs h'
    by_cases hij' : i = j
    · subst hij'
      have := cur_det h ho
      omega
    · have := ih ho (by omega) hex
      omega
theorem cur_mono {s : ByteArray} {i j off off' : Nat} (h : Cur c n a s (lxs c n a s) i off) (h' : Cur c n a s (lxs c n a s) j off') : i < j ↔ off < off' := by
  constructor
  · intro hij; exact cur_lt h h' hij (cur_exists s)
  · intro hoo
    apply Nat.lt_of_not_le
    intro hji
    by_cases he : i = j
    · subst he; have := cur_det h h'; omega
    · have := cur_lt h' h (by omega) (cur_exists s); omega
/-- A token whose window lies in what two texts share. -/
theorem tko_keep {s t : ByteArray} {A off : Nat} (hA : (L s).take A = (L t).take A) (hs : A ≤ s.size) (ht : A ≤ t.size) (hlt : off < s.size) (hw : off + (tko c n a s off).lk ≤ A) : tko c n a t off = tko c n a s off := by
  have hll : (tk c n a ((L s).drop off) off).lk ≤ ((L s).drop off).length := by
    rw [List.length_drop, L_length]; show (tko c n a s off).lk ≤ _; omega
  have h := tk_local (c := c) (n := n) (a := a) (u := (L t).drop (off + (tko c n a s off).lk)) (drop_ne hlt) off hll off
  have e : ((L s).drop off).take (tk c n a ((L s).drop off) off).lk ++ (L t).drop (off + (tko c n a s off).lk) = (L t).drop off := by
    have e1 : ((L s).drop off).take (tko c n a s off).lk = ((L t).drop off).take (tko c n a s off).lk := by
      have e2 : ((L s).take A).drop off = ((L t).take A).drop off := by rw [hA]
      rw [List.drop_take, List.drop_take] at e2
      have e3 := congrArg (List.take (tko c n a s off).lk) e2
      rw [List.take_take, List.take_take, Nat.min_eq_left (by omega)] at e3
      exact e3
    show ((L s).drop off).take (tko c n a s off).lk ++ _ = _
    rw [e1, ← List.drop_drop, List.take_append_drop]
  rw [e] at h
  exact h
/-- What stands behind an offset in one text and behind another in another text. -/
theorem lx_moved {X : List UInt8} (p q : Nat) : (lx c n a X p).map Tk.s = ((lx c n a X q).map Tk.s).map fun x => { x with f1 := x.f1 + ((p : Int) - (q : Int)) } := by
  have h1 := lx_shift (c := c) (n := n) (a := a) _ X 0 p (Nat.le_refl _)
  have h2 := lx_shift (c := c) (n := n) (a := a) _ X 0 q (Nat.le_refl _)
  rw [Nat.zero_add] at h1 h2
  rw [h1, h2, List.map_map, List.map_map, List.map_map]
  refine List.map_congr_left fun x _ => ?_
  simp only [Function.comp, Tk.s, Tk.sh]
  congr 1
  omega
end
section
variable {c : List Int} {n : List (List Int)} {a : List Int}
/-- The first place from i on where P fails. -/
theorem first_stop (P : Nat → Prop) (m : Nat) : ∀ (d i : Nat), m - i ≤ d → i ≤ m → ∃ j, i ≤ j ∧ j ≤ m ∧ (∀ x, i ≤ x → x < j → P x) ∧ (j < m → ¬ P j) := by
  intro d
  induction d with
  | zero => intro i h1 h2; exact ⟨i, Nat.le_refl _, h2, fun x h3 h4 => absurd h4 (by omega), fun h => absurd h (by omega)⟩
  | succ d ih =>
    intro i h1 h2
    by_cases he : i = m
    · exact ⟨i, Nat.le_refl _, h2, fun x h3 h4 => absurd h4 (by omega), fun h => absurd h (by omega)⟩
    · by_cases hp : P i
      · obtain ⟨j, j1, j2, j3, j4⟩ := ih (i + 1) (by omega) (by omega)
        refine ⟨j, by omega, j2, fun x h3 h4 => ?_, j4⟩
        by_cases hx : x = i
        · rw [hx]; exact hp
        · exact j3 x (by omega) h4
      · exact ⟨i, Nat.le_refl _, h2, fun x h3 h4 => absurd h4 (by omega), fun _ => hp⟩
theorem wr (x : Int) (h0 : -100000 ≤ x) (h1 : x ≤ 100000) : wrap64 x = x := wrap_id (by omega) (by omega)
/-- Tokens with moderate numbers. -/
def Mod (l : List S32) : Prop := l.length ≤ 4000 ∧ ∀ i : Nat, i < l.length → 0 ≤ (rd_T32 l (i : Int)).f1 ∧ (rd_T32 l (i : Int)).f1 ≤ 4000 ∧ 1 ≤ (rd_T32 l (i : Int)).f3 ∧ (rd_T32 l (i : Int)).f3 ≤ 4000
theorem mod_lxs {s : ByteArray} (hs : s.size ≤ 3000) : Mod (lxs c n a s) := by
  have hl : (lxs c n a s).length ≤ 3000 := by
    have := lx_length c n a (L s).length (L s) 0 (Nat.le_refl _)
    unfold lxs
    rw [List.length_map]
    rw [L_length] at this
    omega
  refine ⟨by omega, fun i hi => ?_⟩
  obtain ⟨o, ho⟩ := cur_exists (c := c) (n := n) (a := a) s i (by omega)
  have hlt := cur_len ho hi
  obtain ⟨_, h2, _⟩ := cur_step ho hlt
  obtain ⟨_, _, _, b4, b5⟩ := tko_len (c := c) (n := n) (a := a) hlt
  rw [rdT_get h2]
  have e1 : (tko c n a s o).s.f1 = (o : Int) := rfl
  have e2 : (tko c n a s o).s.f3 = ((tko c n a s o).lk : Int) := rfl
  rw [e1, e2]
  generalize (tko c n a s o).lk = lk at b4 b5
  omega
/-- The retained prefix, for both programs. -/
theorem prefix_ev {l : List S32} (hl : Mod l) (A : Int) : ∃ p : Nat, p ≤ l.length ∧ (∀ i : Nat, i < p → (rd_T32 l (i : Int)).f1 + (rd_T32 l (i : Int)).f3 ≤ A) ∧ (p < l.length → ¬ (rd_T32 l (p : Int)).f1 + (rd_T32 l (p : Int)).f3 ≤ A)
    ∧ Ev (fun k => relex_prefix.f k l A) (p : Int) ∧ Ev (fun k => emendateref13_prefix.f k l A) (p : Int) := by
  obtain ⟨p, _, p2, p3, p4⟩ := first_stop (fun i => (rd_T32 l (i : Int)).f1 + (rd_T32 l (i : Int)).f3 ≤ A) l.length l.length 0 (by omega) (by omega)
  refine ⟨p, p2, fun i hi => p3 i (by omega) hi, p4, ?_, ?_⟩
  all_goals
    have key : ∀ (d i : Nat), p - i ≤ d → i ≤ p → Ev (fun k => relex_prefix.l0 k l A (i : Int)) (p : Int) ∧ Ev (fun k => emendateref13_prefix.l0 k l A (i : Int)) (p : Int) := by
      have hend : Ev (fun k => relex_prefix.l0 k l A (p : Int)) (p : Int) ∧ Ev (fun k => emendateref13_prefix.l0 k l A (p : Int)) (p : Int) := by
        by_cases hp : p < l.length
        · have h4 := p4 hp
          obtain ⟨m1, m2, m3, m4⟩ := hl.2 p hp
          have g1 : (p : Int) < (l.length : Int) := Int.ofNat_lt.2 hp
          have g2 : (0 : Int) ≤ (p : Int) := Int.natCast_nonneg p
          have g3 : wrap64 ((rd_T32 l (p : Int)).f1 + (rd_T32 l (p : Int)).f3) = (rd_T32 l (p : Int)).f1 + (rd_T32 l (p : Int)).f3 := wr _ (by omega) (by omega)
          constructor
          · refine Ev.step (f := fun _ => some (p : Int)) (fun k => ?_) (Ev.now _)
            simp only [relex_prefix.l0]
            rw [if_pos g1, if_pos g2, g3, if_neg h4]
          · refine Ev.step (f := fun _ => some (p : Int)) (fun k => ?_) (Ev.now _)
            simp only [emendateref13_prefix.l0]
            rw [if_pos g1, if_pos g2, g3, if_neg h4]
        · have g1 : ¬ (p : Int) < (l.length : Int) := fun h => hp (Int.ofNat_lt.1 h)
          constructor
          · refine Ev.step (f := fun _ => some (p : Int)) (fun k => ?_) (Ev.now _)
            simp only [relex_prefix.l0]
            rw [if_neg g1]
          · refine Ev.step (f := fun _ => some (p : Int)) (fun k => ?_) (Ev.now _)
            simp only [emendateref13_prefix.l0]
            rw [if_neg g1]
      intro d
      induction d with
      | zero =>
        intro i h1 h2
        obtain rfl : i = p := by omega
        exact hend
      | succ d ih =>
        intro i h1 h2
        by_cases he : i = p
        · subst he; exact hend
        · obtain ⟨r1, r2⟩ := ih (i + 1) (by omega) (by omega)
          have hi : i < l.length := by omega
          have h4 := p3 i (by omega) (by omega)
          have hll := hl.1
          obtain ⟨m1, m2, m3, m4⟩ := hl.2 i hi
          have g1 : (i : Int) < (l.length : Int) := Int.ofNat_lt.2 hi
          have g2 : (0 : Int) ≤ (i : Int) := Int.natCast_nonneg i
          have g3 : wrap64 ((rd_T32 l (i : Int)).f1 + (rd_T32 l (i : Int)).f3) = (rd_T32 l (i : Int)).f1 + (rd_T32 l (i : Int)).f3 := wr _ (by omega) (by omega)
          have g5 : wrap64 ((i : Int) + 1) = ((i + 1 : Nat) : Int) := by rw [wr _ (by omega) (by omega)]; omega
          constructor
          · refine Ev.step (f := fun k => relex_prefix.l0 k l A ((i + 1 : Nat) : Int)) (fun k => ?_) r1
            simp only [relex_prefix.l0]
            rw [if_pos g1, if_pos g2, g3, if_pos h4, g5]
          · refine Ev.step (f := fun k => emendateref13_prefix.l0 k l A ((i + 1 : Nat) : Int)) (fun k => ?_) r2
            simp only [emendateref13_prefix.l0]
            rw [if_pos g1, if_pos g2, g3, if_pos h4, g5]
  · exact (key p 0 (by omega) (by omega)).1
  · exact (key p 0 (by omega) (by omega)).2
/-- Where a token of a text starts. -/
theorem start_f {s : ByteArray} (hs : s.size ≤ 3000) {j off : Nat} (h : Cur c n a s (lxs c n a s) j off) : relex_start.f (lxs c n a s) (j : Int) = some (off : Int) := by
  have hM := (mod_lxs (c := c) (n := n) (a := a) hs).1
  unfold relex_start.f
  by_cases hj : j < (lxs c n a s).length
  · have g1 : (j : Int) < ((lxs c n a s).length : Int) := Int.ofNat_lt.2 hj
    rw [if_pos g1, if_pos (Int.natCast_nonneg j), cur_f1 h hj]
  · have hje : j = (lxs c n a s).length := by have := h.2.2.1; omega
    have g1 : ¬ (j : Int) < ((lxs c n a s).length : Int) := fun hh => hj (Int.ofNat_lt.1 hh)
    rw [if_neg g1]
    by_cases h0 : (lxs c n a s).length = 0
    · rw [if_pos (by rw [h0]; rfl)]
      have : j = 0 := by omega
      subst this
      have := cur_det h (cur_zero s)
      subst this
      rfl
    · have g2 : ¬ ((lxs c n a s).length : Int) = 0 := by omega
      obtain ⟨m, hm⟩ : ∃ m, (lxs c n a s).length = m + 1 := ⟨(lxs c n a s).length - 1, by omega⟩
      obtain ⟨o, ho⟩ := cur_exists (c := c) (n := n) (a := a) s m (by omega)
      have hlt := cur_len ho (by omega)
      obtain ⟨_, q2, q3⟩ := cur_step ho hlt
      obtain ⟨b1, b2, _, _, _⟩ := tko_len (c := c) (n := n) (a := a) hlt
      have hd := cur_det h (by rw [hje, hm]; exact q3)
      have g3 : wrap64 (((lxs c n a s).length : Int) - 1) = (m : Int) := by rw [hm, wr _ (by omega) (by omega)]; omega
      have e1 : (tko c n a s o).s.f1 = (o : Int) := rfl
      have e2 : (tko c n a s o).s.f2.size = (tko c n a s o).tx.length := S_size _
      have g4 : (m : Int) < ((lxs c n a s).length : Int) := by omega
      rw [if_neg g2, g3, if_pos (Int.natCast_nonneg m), if_pos g4, rdT_get q2]
      unfold relex_end.f
      rw [e1, e2, hd]
      generalize (tko c n a s o).tx.length = tl at b1 b2
      have : wrap64 ((o : Int) + (tl : Int)) = ((o + tl : Nat) : Int) := by rw [wr _ (by omega) (by omega)]; omega
      rw [this]
      rfl
end
section
variable {c : List Int} {n : List (List Int)} {a : List Int}
def shf (sh : Int) (q : S32) : S32 := { q with f1 := q.f1 + sh }
theorem up_l2 (sh : Int) (m : List S32) (x y z : Int) (hm : Mod m) (h0 : -5000 ≤ sh) (h1 : sh ≤ 5000) :
    ∀ (d i : Nat) (out : List S32), m.length - i ≤ d → i ≤ m.length → out.length + (m.length - i) ≤ 10000 → Ev (fun k => relex_Update.l2 k sh out m (m.length : Int) (i : Int) x y z) (out ++ (m.drop i).map (shf sh), x, y, z, 0) := by
  have hml := hm.1
  have hend : ∀ (i : Nat) (out : List S32), i = m.length → Ev (fun k => relex_Update.l2 k sh out m (m.length : Int) (i : Int) x y z) (out ++ (m.drop i).map (shf sh), x, y, z, 0) := by
    intro i out he
    have g1 : ¬ (i : Int) < (m.length : Int) := by omega
    rw [List.drop_of_length_le (by omega), List.map_nil, List.append_nil]
    refine Ev.step (f := fun _ => some (out, x, y, z, 0)) (fun k => ?_) (Ev.now _)
    simp only [relex_Update.l2]
    rw [if_neg g1]
  intro d
  induction d with
  | zero => intro i out e1 e2 _; exact hend i out (by omega)
  | succ d ih =>
    intro i out e1 e2 e3
    by_cases he : i = m.length
    · exact hend i out he
    · have hi : i < m.length := by omega
      obtain ⟨m1, m2, _, _⟩ := hm.2 i hi
      have gq : m[i]? = some m[i] := List.getElem?_eq_getElem hi
      have e4 := ih (i + 1) (out ++ [shf sh m[i]]) (by omega) (by omega) (by rw [List.length_append, List.length_singleton]; omega)
      rw [List.append_assoc] at e4
      have e5 : [shf sh m[i]] ++ (m.drop (i + 1)).map (shf sh) = (m.drop i).map (shf sh) := by
        rw [List.drop_eq_getElem_cons hi]; rfl
      rw [e5] at e4
      have g1 : (i : Int) < (m.length : Int) := Int.ofNat_lt.2 hi
      have g2 : (0 : Int) ≤ (i : Int) := Int.natCast_nonneg i
      have g3 : wrap64 ((rd_T32 m (i : Int)).f1 + sh) = (rd_T32 m (i : Int)).f1 + sh := wr _ (by omega) (by omega)
      have g4 : wrap64 ((i : Int) + 1) = ((i + 1 : Nat) : Int) := by rw [wr _ (by omega) (by omega)]; omega
      have g5 : out.length < 3518437208883 := by omega
      refine Ev.step (f := fun k => relex_Update.l2 k sh (out ++ [shf sh m[i]]) m (m.length : Int) ((i + 1 : Nat) : Int) x y z) (fun k => ?_) e4
      simp only [relex_Update.l2]
      rw [if_pos g1, if_pos g2, if_pos g1, if_pos g5, g3, g4, rdT_get gq]
      rfl
theorem up_l1 (l : List S32) (hl : Mod l) (fr sh : Int) (p A D j' : Nat) (out : List S32) (I : ByteArray) (cls : List Int) (nxt : List (List Int)) (acc : List Int) (t : ByteArray) (hA : A ≤ 4000) (hD : D ≤ 4000) (h0 : -5000 ≤ sh) (h1 : sh ≤ 5000) (hj : j' ≤ l.length)
    (hstop : j' < l.length → ¬ ((rd_T32 l (j' : Int)).f1 < (A : Int) + D ∨ (rd_T32 l (j' : Int)).f1 + sh < (p : Int)))
    (R : List S32 × Int × Int × Int × Int) (hR : Ev (fun k => relex_Update.j2 k l fr sh (p : Int) (j' : Int) out (A : Int) (D : Int) I cls nxt acc t) R) :
    ∀ (d j : Nat), j' - j ≤ d → j ≤ j' → (∀ i : Nat, j ≤ i → i < j' → ((rd_T32 l (i : Int)).f1 < (A : Int) + D ∨ (rd_T32 l (i : Int)).f1 + sh < (p : Int))) →
      Ev (fun k => relex_Update.l1 k l fr sh (p : Int) (j : Int) out (A : Int) (D : Int) I cls nxt acc t) R := by
  have gAD : wrap64 ((A : Int) + (D : Int)) = (A : Int) + D := wr _ (by omega) (by omega)
  have hend : Ev (fun k => relex_Update.l1 k l fr sh (p : Int) (j' : Int) out (A : Int) (D : Int) I cls nxt acc t) R := by
    refine Ev.step (f := fun k => relex_Update.j2 k l fr sh (p : Int) (j' : Int) out (A : Int) (D : Int) I cls nxt acc t) (fun k => ?_) hR
    simp only [relex_Update.l1]
    by_cases hlt : j' < l.length
    · have hs := hstop hlt
      obtain ⟨m1, m2, _, _⟩ := hl.2 j' hlt
      have s1 : ¬ (rd_T32 l (j' : Int)).f1 < (A : Int) + D := fun h => hs (Or.inl h)
      have s2 : ¬ (rd_T32 l (j' : Int)).f1 + sh < (p : Int) := fun h => hs (Or.inr h)
      have g3 : wrap64 ((rd_T32 l (j' : Int)).f1 + sh) = (rd_T32 l (j' : Int)).f1 + sh := wr _ (by omega) (by omega)
      rw [if_pos (Int.ofNat_lt.2 hlt), if_pos (Int.natCast_nonneg j'), gAD, if_neg s1, g3, if_neg s2]
    · rw [if_neg (fun h => hlt (Int.ofNat_lt.1 h))]
  intro d
  induction d with
  | zero =>
    intro j e1 e2 _
    obtain rfl : j = j' := by omega
    exact hend
  | succ d ih =>
    intro j e1 e2 e3
    by_cases he : j = j'
    · subst he; exact hend
    · have hi : j < l.length := by omega
      have hll := hl.1
      have hc := e3 j (Nat.le_refl _) (by omega)
      have hn := ih (j + 1) (by omega) (by omega) (fun i i1 i2 => e3 i (by omega) i2)
      obtain ⟨m1, m2, _, _⟩ := hl.2 j hi
      have g3 : wrap64 ((rd_T32 l (j : Int)).f1 + sh) = (rd_T32 l (j : Int)).f1 + sh := wr _ (by omega) (by omega)
      have g4 : wrap64 ((j : Int) + 1) = ((j + 1 : Nat) : Int) := by rw [wr _ (by omega) (by omega)]; omega
      refine Ev.step (f := fun k => relex_Update.l1 k l fr sh (p : Int) ((j + 1 : Nat) : Int) out (A : Int) (D : Int) I cls nxt acc t) (fun k => ?_) hn
      simp only [relex_Update.l1]
      rw [if_pos (Int.ofNat_lt.2 hi), if_pos (Int.natCast_nonneg j), gAD, g3, g4]
      by_cases s1 : (rd_T32 l (j : Int)).f1 < (A : Int) + D
      · rw [if_pos s1]
      · rw [if_neg s1]
        rcases hc with s2 | s2
        · exact absurd s2 s1
        · rw [if_pos s2]
end
section
variable {c : List Int} {n : List (List Int)} {a : List Int}
theorem rd_drop (l : List S32) (j i : Nat) : rd_T32 (l.drop j) (i : Int) = rd_T32 l ((j + i : Nat) : Int) := by
  unfold rd_T32
  simp only [Int.toNat_natCast, List.getD_eq_getElem?_getD, List.getElem?_drop]
theorem mod_drop {l : List S32} (h : Mod l) (j : Nat) : Mod (l.drop j) := by
  refine ⟨by rw [List.length_drop]; have := h.1; omega, fun i hi => ?_⟩
  rw [List.length_drop] at hi
  rw [rd_drop]
  exact h.2 (j + i) (by omega)
/-- The two texts behind the edit. -/
theorem behind {s t : ByteArray} {A D Z : Nat} (hdrop : (L t).drop (A + Z) = (L s).drop (A + D)) {p q : Nat} (hp : A + Z ≤ p) (he : (p : Int) = q + ((Z : Int) - D)) : (L t).drop p = (L s).drop q := by
  have h1 : p = A + Z + (p - (A + Z)) := by omega
  have h2 : q = A + D + (p - (A + Z)) := by omega
  rw [h1, ← List.drop_drop, hdrop, List.drop_drop, ← h2]
theorem up_final {s t : ByteArray} {A D Z : Nat} (hdrop : (L t).drop (A + Z) = (L s).drop (A + D)) {i j p q : Nat} (hc : Cur c n a t (lxs c n a t) i p) (hd : Cur c n a s (lxs c n a s) j q) (hp : A + Z ≤ p) (he : (p : Int) = q + ((Z : Int) - D)) :
    (lxs c n a t).take i ++ ((lxs c n a s).drop j).map (shf ((Z : Int) - D)) = lxs c n a t := by
  have h1 := hc.2.2.2
  have h2 := hd.2.2.2
  rw [behind hdrop hp he, lx_moved p q, ← h2] at h1
  have h3 : ((p : Int) - (q : Int)) = (Z : Int) - D := by omega
  rw [h3] at h1
  have h4 : ((lxs c n a s).drop j).map (shf ((Z : Int) - D)) = (lxs c n a t).drop i := by rw [h1]; rfl
  rw [h4, List.take_append_drop]
theorem up_loop (hv : VD c n a) (s t I : ByteArray) (A D Z : Nat) (hZ : I.size = Z) (hs : s.size ≤ 2000) (hI : Z ≤ 500) (hAD : A + D ≤ s.size) (hts : t.size + D = s.size + Z) (hdrop : (L t).drop (A + Z) = (L s).drop (A + D)) (fr : Nat) :
    ∀ (d i j p : Nat), t.size - p < d → Cur c n a t (lxs c n a t) i p → fr ≤ i → fr ≤ j → j ≤ (lxs c n a s).length →
      (∀ x : Nat, x < j → ((rd_T32 (lxs c n a s) (x : Int)).f1 < (A : Int) + D ∨ (rd_T32 (lxs c n a s) (x : Int)).f1 + ((Z : Int) - D) < (p : Int))) →
      ∃ i' j' p' q' : Nat, i ≤ i' ∧ j ≤ j' ∧ Cur c n a t (lxs c n a t) i' p' ∧ Cur c n a s (lxs c n a s) j' q' ∧ A + Z ≤ p' ∧ (p' : Int) = q' + ((Z : Int) - D) ∧
        (∀ x px : Nat, i ≤ x → x < i' → Cur c n a t (lxs c n a t) x px → A + Z ≤ px → ∀ y qy : Nat, Cur c n a s (lxs c n a s) y qy → (px : Int) ≠ qy + ((Z : Int) - D)) ∧
        Ev (fun k => relex_Update.l0 k (lxs c n a s) (fr : Int) ((Z : Int) - D) (p : Int) (j : Int) ((lxs c n a t).take i) (A : Int) (D : Int) I c n a t) (lxs c n a t, (fr : Int), (j' : Int) - fr, (i' : Int) - fr, 0) := by
  have hM : Mod (lxs c n a s) := mod_lxs (by omega)
  have hMt : Mod (lxs c n a t) := mod_lxs (by omega)
  have hML := hM.1
  have hMtL := hMt.1
  have gAZ : wrap64 ((A : Int) + (I.size : Int)) = ((A + Z : Nat) : Int) := by rw [hZ, wr _ (by omega) (by omega)]; omega
  intro d
  induction d with
  | zero => intro i j p e1; exact absurd e1 (by omega)
  | succ d ih =>
    intro i j p e1 hc e2 e3 e4 e5
    obtain ⟨j1, j11, j12, j13, j14⟩ := first_stop (fun x => (rd_T32 (lxs c n a s) (x : Int)).f1 < (A : Int) + D ∨ (rd_T32 (lxs c n a s) (x : Int)).f1 + ((Z : Int) - D) < (p : Int)) (lxs c n a s).length (lxs c n a s).length j (by omega) e4
    obtain ⟨q1, hq1⟩ := cur_exists (c := c) (n := n) (a := a) s j1 j12
    have hpt := hc.1
    have hit := hc.2.2.1
    have hqs := hq1.1
    have hst := start_f (c := c) (n := n) (a := a) (s := s) (by omega) hq1
    have hl1 : ∀ R : List S32 × Int × Int × Int × Int, Ev (fun k => relex_Update.j2 k (lxs c n a s) (fr : Int) ((Z : Int) - D) (p : Int) (j1 : Int) ((lxs c n a t).take i) (A : Int) (D : Int) I c n a t) R → Ev (fun k => relex_Update.l0 k (lxs c n a s) (fr : Int) ((Z : Int) - D) (p : Int) (j : Int) ((lxs c n a t).take i) (A : Int) (D : Int) I c n a t) R := by
      intro R hR
      refine Ev.step (f := fun k => relex_Update.l1 k (lxs c n a s) (fr : Int) ((Z : Int) - D) (p : Int) (j : Int) ((lxs c n a t).take i) (A : Int) (D : Int) I c n a t) (fun k => ?_) (up_l1 _ hM _ _ p A D j1 _ _ _ _ _ _ (by omega) (by omega) (by omega) (by omega) j12 j14 R hR (j1 - j) j (by omega) j11 j13)
      simp only [relex_Update.l0]
    have hlen : ((lxs c n a t).take i).length = i := by rw [List.length_take]; omega
    have hw : wrap64 ((q1 : Int) + ((Z : Int) - D)) = (q1 : Int) + ((Z : Int) - D) := wr _ (by omega) (by omega)
    by_cases hb : A + Z ≤ p ∧ (p : Int) = q1 + ((Z : Int) - D)
    · -- the scan meets the old tokens
      refine ⟨i, j1, p, q1, Nat.le_refl _, j11, hc, hq1, hb.1, hb.2, fun x px h1 h2 => absurd h2 (by omega), hl1 _ ?_⟩
      have hfin := up_final hdrop hc hq1 hb.1 hb.2
      have h2 := up_l2 ((Z : Int) - D) ((lxs c n a s).drop j1) (fr : Int) ((j1 : Int) - fr) ((i : Int) - fr) (mod_drop hM j1) (by omega) (by omega) (((lxs c n a s).drop j1).length) 0 ((lxs c n a t).take i) (by omega) (by omega) (by rw [hlen, List.length_drop]; omega)
      rw [List.drop_zero, hfin] at h2
      have h3 : Ev (fun k => relex_Update.j3 k (lxs c n a s) (fr : Int) ((Z : Int) - D) (p : Int) (j1 : Int) ((lxs c n a t).take i) true (A : Int) (D : Int) I c n a t) (lxs c n a t, (fr : Int), (j1 : Int) - fr, (i : Int) - fr, 0) := by
        refine Ev.step (f := fun k => relex_Update.l2 k ((Z : Int) - D) ((lxs c n a t).take i) ((lxs c n a s).drop j1) (((lxs c n a s).drop j1).length : Int) ((0 : Nat) : Int) (fr : Int) ((j1 : Int) - fr) ((i : Int) - fr)) (fun k => ?_) h2
        have g1 : (j1 : Int) ≤ ((lxs c n a s).length : Int) := Int.ofNat_le.2 j12
        have g2 : wrap64 ((j1 : Int) - (fr : Int)) = (j1 : Int) - fr := wr _ (by omega) (by omega)
        have g3 : wrap64 ((((lxs c n a t).take i).length : Int) - (fr : Int)) = (i : Int) - fr := by rw [hlen]; exact wr _ (by omega) (by omega)
        simp only [relex_Update.j3]
        rw [if_pos trivial, if_pos (Int.natCast_nonneg j1), if_pos g1, Int.toNat_natCast, g2, g3]
        rfl
      refine Ev.step (f := fun k => relex_Update.j3 k (lxs c n a s) (fr : Int) ((Z : Int) - D) (p : Int) (j1 : Int) ((lxs c n a t).take i) true (A : Int) (D : Int) I c n a t) (fun k => ?_) h3
      have g1 : (p : Int) ≥ ((A + Z : Nat) : Int) := Int.ofNat_le.2 hb.1
      simp only [relex_Update.j2]
      rw [gAZ, if_pos g1, hst]
      simp only [Option.bind_some]
      rw [hw, ← hb.2]
      simp
    · -- one more token of the new text
      have hlt : p < t.size := by
        apply Nat.lt_of_not_le
        intro h0
        have hpe : p = t.size := by omega
        have hj1 : j1 = (lxs c n a s).length := by
          apply Nat.le_antisymm j12
          apply Nat.le_of_not_lt
          intro hjl
          have h1 := j14 hjl
          have h2 := cur_len hq1 hjl
          rw [cur_f1 hq1 hjl] at h1
          exact h1 (Or.inr (by omega))
        have h3 : ¬ q1 < s.size := fun h => by have := (cur_step hq1 h).1; omega
        exact hb ⟨by omega, by omega⟩
      obtain ⟨k1, k2, k3⟩ := cur_step hc hlt
      obtain ⟨b1, b2, _, _, _⟩ := tko_len (c := c) (n := n) (a := a) hlt
      have hout : (lxs c n a t).take i ++ [(tko c n a t p).s] = (lxs c n a t).take (i + 1) := by
        rw [List.take_add_one, k2]; rfl
      have hone := one_ev hv t p hlt (by omega)
      obtain ⟨tl, htl⟩ : ∃ tl, (tko c n a t p).tx.length = tl := ⟨_, rfl⟩
      rw [htl] at b1 b2 k3
      obtain ⟨i', j', p', q', r1, r2, r3, r4, r5, r6, r7, r8⟩ := ih (i + 1) j1 (p + tl) (by omega) k3 (by omega) (by omega) j12 (fun x hx => by
        rcases Nat.lt_or_ge x j with h | h
        · rcases e5 x h with h | h
          · exact Or.inl h
          · exact Or.inr (by omega)
        · rcases j13 x h hx with h | h
          · exact Or.inl h
          · exact Or.inr (by omega))
      refine ⟨i', j', p', q', by omega, by omega, r3, r4, r5, r6, ?_, hl1 _ ?_⟩
      · intro x px x1 x2 x3 x4 y qy x5 x6
        by_cases hx : x = i
        · subst hx
          have hpx := cur_det x3 hc
          subst hpx
          -- y cannot be before j1, nor behind it
          by_cases hyj : y = j1
          · subst hyj
            have := cur_det x5 hq1
            subst this
            exact hb ⟨x4, x6⟩
          · have hyl := x5.2.2.1
            have hnc : ∀ z : Nat, z < j1 → ((rd_T32 (lxs c n a s) (z : Int)).f1 < (A : Int) + D ∨ (rd_T32 (lxs c n a s) (z : Int)).f1 + ((Z : Int) - D) < (px : Int)) := by
              intro z hz
              rcases Nat.lt_or_ge z j with h | h
              · exact e5 z h
              · exact j13 z h hz
            by_cases hlo : y < j1
            · have h1 := hnc y hlo
              rw [cur_f1 x5 (by omega)] at h1
              omega
            · have hlo2 : j1 < y := by omega
              have h1 := (cur_mono hq1 x5).1 hlo2
              have h2 := j14 (by omega)
              rw [cur_f1 hq1 (by omega)] at h2
              apply h2
              exact Or.inr (by omega)
        · exact r7 x px (by omega) x2 x3 x4 y qy x5 x6
      · have hj3 : Ev (fun k => relex_Update.j3 k (lxs c n a s) (fr : Int) ((Z : Int) - D) (p : Int) (j1 : Int) ((lxs c n a t).take i) false (A : Int) (D : Int) I c n a t) (lxs c n a t, (fr : Int), (j' : Int) - fr, (i' : Int) - fr, 0) := by
          refine Ev.step (f := fun k => (relex_scanner1.f k c n a t p).bind fun bt377 => (if ((lxs c n a t).take i).length < 3518437208883 then ((relex_end.f bt377.1 bt377.2.1 bt377.2.2.1 bt377.2.2.2).bind fun t385 => (relex_Update.l0 k (lxs c n a s) (fr : Int) ((Z : Int) - D) t385 (j1 : Int) (((lxs c n a t).take i) ++ [(⟨bt377.1, bt377.2.1, bt377.2.2.1, bt377.2.2.2⟩ : S32)]) (A : Int) (D : Int) I c n a t)) else (none))) (fun k => ?_) (Ev.bind (a := (tko c n a t p).v) hone ?_)
          · simp only [relex_Update.j3]
            rw [if_neg (by simp)]
          · refine Ev.congr (fun k => ?_) r8
            have g1 : ((lxs c n a t).take i).length < 3518437208883 := by rw [hlen]; omega
            rw [if_pos g1]
            have g2 : relex_end.f (tko c n a t p).v.1 (tko c n a t p).v.2.1 (tko c n a t p).v.2.2.1 (tko c n a t p).v.2.2.2 = some ((p + tl : Nat) : Int) := by
              unfold relex_end.f
              have e1' : (tko c n a t p).v.2.1 = (p : Int) := rfl
              have e2' : (tko c n a t p).v.2.2.1.size = (tko c n a t p).tx.length := S_size _
              rw [e1', e2', htl, wr _ (by omega) (by omega)]
              congr 1
            rw [g2]
            simp only [Option.bind_some]
            rw [show (⟨(tko c n a t p).v.1, (tko c n a t p).v.2.1, (tko c n a t p).v.2.2.1, (tko c n a t p).v.2.2.2⟩ : S32) = (tko c n a t p).s from rfl, hout]
        by_cases hap : A + Z ≤ p
        · refine Ev.step (f := fun k => relex_Update.j3 k (lxs c n a s) (fr : Int) ((Z : Int) - D) (p : Int) (j1 : Int) ((lxs c n a t).take i) false (A : Int) (D : Int) I c n a t) (fun k => ?_) hj3
          have g1 : (p : Int) ≥ ((A + Z : Nat) : Int) := Int.ofNat_le.2 hap
          have g2 : ((q1 : Int) + ((Z : Int) - D) == (p : Int)) = false := beq_eq_false_iff_ne.2 (fun h => hb ⟨hap, h.symm⟩)
          simp only [relex_Update.j2]
          rw [gAZ, if_pos g1, hst]
          simp only [Option.bind_some]
          rw [hw, g2]
        · refine Ev.step (f := fun k => relex_Update.j3 k (lxs c n a s) (fr : Int) ((Z : Int) - D) (p : Int) (j1 : Int) ((lxs c n a t).take i) false (A : Int) (D : Int) I c n a t) (fun k => ?_) hj3
          have g1 : ¬ (p : Int) ≥ ((A + Z : Nat) : Int) := fun h => hap (Int.ofNat_le.1 h)
          simp only [relex_Update.j2]
          rw [gAZ, if_neg g1]
end
section
variable {c : List Int} {n : List (List Int)} {a : List Int}
/-- The text behind an edit. -/
def edt (s : ByteArray) (A D : Nat) (I : ByteArray) : ByteArray := s.extract 0 A ++ I ++ s.extract (A + D) s.size
theorem L_edt (s : ByteArray) (A D : Nat) (I : ByteArray) : L (edt s A D I) = (L s).take A ++ (L I ++ (L s).drop (A + D)) := by
  unfold edt
  rw [L_append, L_append, L_extract, L_extract, List.drop_zero, Nat.sub_zero, List.take_of_length_le (l := (L s).drop (A + D)) (by rw [List.length_drop, L_length]; omega), List.append_assoc]
theorem edt_size (s : ByteArray) (A D : Nat) (I : ByteArray) (h : A + D ≤ s.size) : (edt s A D I).size + D = s.size + I.size := by
  rw [← L_length, L_edt, List.length_append, List.length_append, List.length_take, List.length_drop, L_length, L_length]
  omega
theorem edt_take (s : ByteArray) (A D : Nat) (I : ByteArray) (h : A + D ≤ s.size) : (L s).take A = (L (edt s A D I)).take A := by
  rw [L_edt, List.take_append_of_le_length (by rw [List.length_take, L_length]; omega), List.take_take, Nat.min_self]
theorem edt_drop (s : ByteArray) (A D : Nat) (I : ByteArray) (h : A + D ≤ s.size) : (L (edt s A D I)).drop (A + I.size) = (L s).drop (A + D) := by
  rw [L_edt, ← List.append_assoc, List.drop_left' (by rw [List.length_append, List.length_take, L_length, L_length]; omega)]
def fitsP (sz : Nat) (x y : Int) : Prop := 0 ≤ x ∧ 0 ≤ y ∧ x ≤ sz ∧ y ≤ sz - x
theorem fits_f (sz : Nat) (hsz : sz ≤ 5000) (x y : Int) (I : ByteArray) : (fitsP sz x y → textedit_fits.f (sz : Int) x y I = some true ∧ emendateref01_Fits.f (sz : Int) x y I = some true) ∧ (¬ fitsP sz x y → textedit_fits.f (sz : Int) x y I = some false ∧ emendateref01_Fits.f (sz : Int) x y I = some false) := by
  unfold textedit_fits.f emendateref01_Fits.f fitsP
  by_cases h1 : x ≥ 0
  · by_cases h2 : y ≥ 0
    · by_cases h3 : x ≤ (sz : Int)
      · have hw : wrap64 ((sz : Int) - x) = (sz : Int) - x := wr _ (by omega) (by omega)
        rw [if_pos h1, if_pos h2, if_pos h3, hw]
        by_cases h4 : y ≤ (sz : Int) - x
        · rw [decide_eq_true h4]; exact ⟨fun _ => ⟨rfl, rfl⟩, fun h => absurd ⟨h1, h2, h3, h4⟩ h⟩
        · rw [decide_eq_false h4]; exact ⟨fun h => absurd h.2.2.2 h4, fun _ => ⟨rfl, rfl⟩⟩
      · rw [if_pos h1, if_pos h2, if_neg h3]; exact ⟨fun h => absurd h.2.2.1 h3, fun _ => ⟨rfl, rfl⟩⟩
    · rw [if_pos h1, if_neg h2]; exact ⟨fun h => absurd h.2.1 h2, fun _ => ⟨rfl, rfl⟩⟩
  · rw [if_neg h1]; exact ⟨fun h => absurd h.1 h1, fun _ => ⟨rfl, rfl⟩⟩
theorem app_sz (a b : ByteArray) : (a ++ b).size = a.size + b.size := by
  rw [← L_length, L_append, List.length_append, L_length, L_length]
theorem ext_sz (s : ByteArray) (i j : Nat) (h : j ≤ s.size) : (s.extract i j).size = j - i := by
  rw [← L_length, L_extract, List.length_take, List.length_drop, L_length]; omega
theorem apply_f (s : ByteArray) (hs : s.size ≤ 5000) (A D : Nat) (I : ByteArray) (hI : I.size ≤ 5000) (h : A + D ≤ s.size) : textedit_Apply.f s (A : Int) (D : Int) I = some (edt s A D I, 0) ∧ emendateref01_Replace.f s (A : Int) (D : Int) I = some (edt s A D I, 0) := by
  have hf := (fits_f s.size hs (A : Int) (D : Int) I).1 ⟨by omega, by omega, by omega, by omega⟩
  have hw : wrap64 ((A : Int) + (D : Int)) = ((A + D : Nat) : Int) := by rw [wr _ (by omega) (by omega)]; omega
  have g1 : (0 : Int) ≤ (A : Int) := by omega
  have g2 : (A : Int) ≤ (s.size : Int) := by omega
  have g3 : (s.extract 0 A).size + I.size ≤ 9223372036854775807 := by rw [ext_sz _ _ _ (by omega)]; omega
  have g4 : (0 : Int) ≤ ((A + D : Nat) : Int) := by omega
  have g5 : ((A + D : Nat) : Int) ≤ (s.size : Int) := by omega
  have g6 : (s.extract 0 A ++ I).size + (s.extract (A + D) s.size).size ≤ 9223372036854775807 := by rw [app_sz, ext_sz _ _ _ (by omega), ext_sz _ _ _ (Nat.le_refl _)]; omega
  unfold textedit_Apply.f emendateref01_Replace.f
  rw [hf.1, hf.2]
  simp only [Option.bind_some]
  rw [if_pos trivial, hw, if_pos g1, if_pos g2, Int.toNat_natCast, Int.toNat_natCast, if_pos g3, if_pos g4, if_pos g5, if_pos g6]
  exact ⟨rfl, rfl⟩
/-- What an update finds: the retained tokens, and where the new tokens meet the old ones. -/
structure Upd (c : List Int) (n : List (List Int)) (a : List Int) (s t : ByteArray) (A D Z fr i j p q : Nat) : Prop where
  fi : fr ≤ i
  fj : fr ≤ j
  ct : Cur c n a t (lxs c n a t) i p
  cs : Cur c n a s (lxs c n a s) j q
  hp : A + Z ≤ p
  he : (p : Int) = q + ((Z : Int) - D)
  pre : ∀ x : Nat, x < fr → (rd_T32 (lxs c n a s) (x : Int)).f1 + (rd_T32 (lxs c n a s) (x : Int)).f3 ≤ A
  post : fr < (lxs c n a s).length → ¬ (rd_T32 (lxs c n a s) (fr : Int)).f1 + (rd_T32 (lxs c n a s) (fr : Int)).f3 ≤ A
  tk : (lxs c n a s).take fr = (lxs c n a t).take fr
  least : ∀ x px : Nat, fr ≤ x → x < i → Cur c n a t (lxs c n a t) x px → A + Z ≤ px → ∀ y qy : Nat, Cur c n a s (lxs c n a s) y qy → (px : Int) ≠ qy + ((Z : Int) - D)
theorem lxs_text_ev (s : ByteArray) (hs : s.size ≤ 2000) : Ev (fun k => lexer_Text.f k (lxs c n a s)) s ∧ cat (lxs c n a s) = L s := by
  have hc : cat (lxs c n a s) = L s := cat_lx (c := c) (n := n) (a := a) _ (L s) 0 (Nat.le_refl _)
  have hl := (mod_lxs (c := c) (n := n) (a := a) (s := s) (by omega)).1
  have h := Text_ev (lxs c n a s) (by omega) (by rw [hc, L_length]; omega)
  rw [hc, S_L] at h
  exact ⟨h, hc⟩
/-- The retained tokens are tokens of the new text. -/
theorem keep_pre {s t : ByteArray} {A fr : Nat} (hA : (L s).take A = (L t).take A) (hs : A ≤ s.size) (ht : A ≤ t.size) (hfr : fr ≤ (lxs c n a s).length) (hpre : ∀ x : Nat, x < fr → (rd_T32 (lxs c n a s) (x : Int)).f1 + (rd_T32 (lxs c n a s) (x : Int)).f3 ≤ A) :
    ∀ i, i ≤ fr → ∃ o, Cur c n a s (lxs c n a s) i o ∧ Cur c n a t (lxs c n a t) i o ∧ (lxs c n a s).take i = (lxs c n a t).take i := by
  intro i
  induction i with
  | zero => intro _; exact ⟨0, cur_zero s, cur_zero t, by simp⟩
  | succ i ih =>
    intro h
    obtain ⟨o, h1, h2, h3⟩ := ih (by omega)
    have hlt := cur_len h1 (by omega)
    obtain ⟨s1, s2, s3⟩ := cur_step h1 hlt
    obtain ⟨b1, b2, b3, b4, b5⟩ := tko_len (c := c) (n := n) (a := a) hlt
    have hw := hpre i (by omega)
    rw [rdT_get s2] at hw
    have e1 : (tko c n a s o).s.f1 = (o : Int) := rfl
    have e3 : (tko c n a s o).s.f3 = ((tko c n a s o).lk : Int) := rfl
    rw [e1, e3] at hw
    have hw' : o + (tko c n a s o).lk ≤ A := by omega
    have hk := tko_keep (c := c) (n := n) (a := a) hA hs ht hlt hw'
    have hlt' : o < t.size := by omega
    obtain ⟨t1, t2, t3⟩ := cur_step h2 hlt'
    rw [hk] at t2 t3
    refine ⟨_, s3, t3, ?_⟩
    rw [List.take_add_one, List.take_add_one, h3, s2, t2]
theorem Update_ev (hv : VD c n a) (s I : ByteArray) (A D : Nat) (hs : s.size ≤ 1000) (hI : I.size ≤ 500) (hAD : A + D ≤ s.size) :
    ∃ fr i j p q : Nat, Upd c n a s (edt s A D I) A D I.size fr i j p q ∧ Ev (fun k => relex_Update.f k c n a (lxs c n a s) (A : Int) (D : Int) I) (lxs c n a (edt s A D I), (fr : Int), (j : Int) - fr, (i : Int) - fr, 0) ∧ Ev (fun k => emendateref13_prefix.f k (lxs c n a s) (A : Int)) (fr : Int) := by
  obtain ⟨Z, hZ⟩ : ∃ Z, I.size = Z := ⟨_, rfl⟩
  obtain ⟨t, ht⟩ : ∃ t, edt s A D I = t := ⟨_, rfl⟩
  have hsz := edt_size s A D I hAD
  have htake := edt_take s A D I hAD
  have hdrop := edt_drop s A D I hAD
  have happ := (apply_f s (by omega) A D I (by omega) hAD).1
  rw [ht] at hsz htake hdrop happ ⊢
  rw [hZ] at hsz hI hdrop ⊢
  have hM : Mod (lxs c n a s) := mod_lxs (by omega)
  have hML := hM.1
  obtain ⟨fr, f1, f2, f3, f4, f5⟩ := prefix_ev hM (A : Int)
  obtain ⟨o, o1, o2, o3⟩ := keep_pre (c := c) (n := n) (a := a) htake (by omega) (by omega) f1 f2 fr (Nat.le_refl _)
  obtain ⟨i, j, p, q, r1, r2, r3, r4, r5, r6, r7, r8⟩ := up_loop hv s t I A D Z hZ (by omega) hI hAD hsz hdrop fr (t.size + 1) fr fr o (by omega) o2 (Nat.le_refl _) (Nat.le_refl _) f1 (fun x hx => by
    have h1 := f2 x hx
    obtain ⟨_, _, h2, _⟩ := hM.2 x (by omega)
    exact Or.inl (by omega))
  refine ⟨fr, i, j, p, q, ⟨r1, r2, r3, r4, r5, r6, f2, f3, o3, r7⟩, ?_, f5⟩
  have hst := start_f (c := c) (n := n) (a := a) (s := s) (by omega) o1
  refine Ev.congr (fun k => ?_) (Ev.bind (lxs_text_ev (c := c) (n := n) (a := a) s (by omega)).1 (f := fun k t360 => ((textedit_Apply.f t360 (A : Int) (D : Int) I).bind fun bt361 => (if bt361.2 = 0 then ((relex_prefix.f k (lxs c n a s) (A : Int)).bind fun t365 => ((relex_start.f (lxs c n a s) t365).bind fun t366 => (if 0 ≤ t365 then (if t365 ≤ ((lxs c n a s).length : Int) then ((some ((lxs c n a s).take (t365 : Int).toNat : List (S32))).bind fun y367 => (if ([] : List (S32)).length + y367.length < 3518437208883 then (relex_Update.l0 k (lxs c n a s) t365 (wrap64 ((I.size : Int) - (D : Int))) t366 t365 (([] : List (S32)) ++ y367) (A : Int) (D : Int) I c n a bt361.1) else (none))) else (none)) else (none)))) else (some (([] : List (S32)), 0, 0, 0, bt361.2))))) ?_)
  · rfl
  · refine Ev.congr (fun k => ?_) (Ev.bind f4 (f := fun k t365 => ((relex_start.f (lxs c n a s) t365).bind fun t366 => (if 0 ≤ t365 then (if t365 ≤ ((lxs c n a s).length : Int) then ((some ((lxs c n a s).take (t365 : Int).toNat : List (S32))).bind fun y367 => (if ([] : List (S32)).length + y367.length < 3518437208883 then (relex_Update.l0 k (lxs c n a s) t365 (wrap64 ((I.size : Int) - (D : Int))) t366 t365 (([] : List (S32)) ++ y367) (A : Int) (D : Int) I c n a t) else (none))) else (none)) else (none)))) ?_)
    · rw [happ]; rfl
    · refine Ev.congr (fun k => ?_) r8
      have g1 : (fr : Int) ≤ ((lxs c n a s).length : Int) := Int.ofNat_le.2 f1
      have g2 : ([] : List S32).length + ((lxs c n a s).take fr).length < 3518437208883 := by rw [List.length_take, List.length_nil]; omega
      have g3 : wrap64 ((I.size : Int) - (D : Int)) = (Z : Int) - D := by rw [hZ]; exact wr _ (by omega) (by omega)
      rw [hst]
      simp only [Option.bind_some]
      rw [if_pos (Int.natCast_nonneg fr), if_pos g1, Int.toNat_natCast, if_pos g2, g3, List.nil_append, o3]
end
section
variable {c : List Int} {n : List (List Int)} {a : List Int}
theorem Same13_ev {l l' : List S32} (h : l = l') (hl : l.length ≤ 5000) : Ev (fun k => emendateref13_Same.f k l l') true := by
  subst h
  have key : ∀ (m i : Nat), l.length - i ≤ m → i ≤ l.length → Ev (fun k => emendateref13_Same.l0 k l l i) true := by
    intro m
    induction m with
    | zero =>
      intro i hm hi
      exact Ev.step (f := fun _ => some true) (fun k => by simp only [emendateref13_Same.l0]; rw [if_neg (by omega)]) (Ev.now _)
    | succ m ih =>
      intro i hm hi
      by_cases he : i = l.length
      · exact Ev.step (f := fun _ => some true) (fun k => by simp only [emendateref13_Same.l0]; rw [if_neg (by omega)]) (Ev.now _)
      · have g4 : wrap64 ((i : Int) + 1) = ((i + 1 : Nat) : Int) := by rw [wr _ (by omega) (by omega)]; omega
        refine Ev.step (f := fun k => emendateref13_Same.l0 k l l ((i + 1 : Nat) : Int)) (fun k => ?_) (ih (i + 1) (by omega) (by omega))
        simp only [emendateref13_Same.l0]
        rw [if_pos (by omega), if_pos (by omega), if_pos (by omega), if_neg (by simp), g4]
  refine Ev.congr (fun k => ?_) (key _ 0 (by omega) (by omega))
  unfold emendateref13_Same.f
  rw [if_pos rfl]
  rfl
end
end Go.Proofs.Ytepjegfhlglajaa.Q
