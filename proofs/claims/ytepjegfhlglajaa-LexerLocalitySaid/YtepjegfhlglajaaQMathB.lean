/- More of the mathematics of maximal munch: tokens cover the text, the longest accepted part, locality, shifting, and a cursor in the list of tokens. No condition. -/
import Derived.Test.YtepjegfhlglajaaQEvalB
namespace Go.Proofs.Ytepjegfhlglajaa.Q
set_option linter.unusedVariables false
open Go.RowKit Go.Proofs.YtepjegfhlglajaaW.PrintWords Go.Proofs.YtepjegfhlglajaaW.PrintLast Go.Proofs.YtepjegfhlglajaaW.PrintMore

section
variable {c : List Int} {n : List (List Int)} {a : List Int}

theorem cat_lx : ∀ (m : Nat) (t : List UInt8) (i : Nat), t.length ≤ m → cat ((lx c n a t i).map Tk.s) = t := by
  intro m
  induction m with
  | zero => intro t i h; have : t = [] := List.length_eq_zero_iff.1 (by omega); subst this; rfl
  | succ m ih =>
    intro t i h
    by_cases ht : t = []
    · subst ht; rfl
    · have hl := tk_len c n a ht i
      rw [lx_step c n a ht, List.map_cons, cat_cons, ih _ _ (by simp only [List.length_drop]; omega)]
      simp only [Tk.s, L_S]
      simp only [tk, List.length_take]
      have h2 : min (scan c n a t 0 0 (-1) 1).2.1 t.length = (scan c n a t 0 0 (-1) 1).2.1 := by
        have := hl.2.2.2.2.2; simp only [tk, List.length_take] at this; exact this
      rw [h2, List.take_append_drop]

/-- Where the cursor stands: at index i of the list l the tokens from offset off on. -/
def Cur (c : List Int) (n : List (List Int)) (a : List Int) (s : ByteArray) (l : List S32) (i off : Nat) : Prop := off ≤ s.size ∧ i ≤ off ∧ i ≤ l.length ∧ l.drop i = (lx c n a ((L s).drop off) off).map Tk.s
theorem cur_start (s : ByteArray) : Cur c n a s ((lx c n a (L s) 0).map Tk.s) 0 0 := ⟨by omega, by omega, by omega, by simp⟩
theorem cur_end {s : ByteArray} {l : List S32} {i off : Nat} (h : Cur c n a s l i off) (he : off = s.size) : l.length = i := by
  obtain ⟨h1, h2, h3, h4⟩ := h
  have e : (L s).drop off = [] := List.drop_of_length_le (by rw [L_length]; omega)
  rw [e] at h4
  have := congrArg List.length h4
  rw [List.length_drop] at this
  simp [lx_nil] at this
  omega
theorem drop_ne {s : ByteArray} {off : Nat} (h : off < s.size) : (L s).drop off ≠ [] := by
  intro h0
  have := congrArg List.length h0
  rw [List.length_drop, L_length, List.length_nil] at this
  omega
/-- The token at an offset. -/
def tko (c : List Int) (n : List (List Int)) (a : List Int) (s : ByteArray) (off : Nat) : Tk := tk c n a ((L s).drop off) off
theorem tko_len {s : ByteArray} {off : Nat} (h : off < s.size) : 1 ≤ (tko c n a s off).tx.length ∧ off + (tko c n a s off).tx.length ≤ s.size ∧ (tko c n a s off).tx.length ≤ (tko c n a s off).lk ∧ off + (tko c n a s off).lk ≤ s.size + 1 ∧ 1 ≤ (tko c n a s off).lk := by
  have := tk_len c n a (drop_ne h) off
  have h2 : ((L s).drop off).length = s.size - off := by rw [List.length_drop, L_length]
  unfold tko
  omega
theorem cur_step {s : ByteArray} {l : List S32} {i off : Nat} (h : Cur c n a s l i off) (hlt : off < s.size) :
    i < l.length ∧ l[i]? = some (tko c n a s off).s ∧ Cur c n a s l (i + 1) (off + (tko c n a s off).tx.length) := by
  obtain ⟨h1, h2, h3, h4⟩ := h
  have hl := tko_len (c := c) (n := n) (a := a) hlt
  rw [lx_step c n a (drop_ne hlt), List.map_cons] at h4
  have hi : i < l.length := by
    apply Nat.lt_of_not_le
    intro hn
    rw [List.drop_of_length_le hn] at h4
    cases h4
  rw [List.drop_eq_getElem_cons hi] at h4
  injection h4 with h5 h6
  refine ⟨hi, ?_, hl.2.1, by omega, by omega, ?_⟩
  · rw [List.getElem?_eq_getElem hi, h5]; rfl
  · rw [h6, drop_tk]; rfl

theorem scan_local : ∀ (t : List UInt8) (st : Int) (look : Nat) (kd : Int) (sz : Nat), (scan c n a t st look kd sz).2.2 ≤ look + t.length → ∀ u, scan c n a (t.take ((scan c n a t st look kd sz).2.2 - look) ++ u) st look kd sz = scan c n a t st look kd sz
  | [], st, look, kd, sz, h, u => by simp only [scan, List.length_nil] at h; omega
  | b :: r, st, look, kd, sz, h, u => by
    have hb : ∀ look' kd' sz', look' + 1 ≤ (scan c n a r (nx c n st b) look' kd' sz').2.2 := by
      have : ∀ (t : List UInt8) (st : Int) (look : Nat) (kd : Int) (sz : Nat), look + 1 ≤ (scan c n a t st look kd sz).2.2 := by
        intro t
        induction t with
        | nil => intro st look kd sz; simp [scan]
        | cons b r ih =>
          intro st look kd sz
          simp only [scan]
          split
          · simp
          · split
            · have := ih (nx c n st b) (look + 1) (rd a (nx c n st b)) (look + 1); omega
            · have := ih (nx c n st b) (look + 1) kd sz; omega
      intro look' kd' sz'
      exact this r _ look' kd' sz'
    by_cases hn : nx c n st b < 0
    · have e : scan c n a (b :: r) st look kd sz = (kd, sz, look + 1) := by simp only [scan]; rw [if_pos hn]
      rw [e]
      simp only [show look + 1 - look = 1 from by omega, List.take_succ_cons, List.take_zero, List.cons_append, List.nil_append, scan]
      rw [if_pos hn]
    · by_cases ha : 0 ≤ rd a (nx c n st b)
      · have e : scan c n a (b :: r) st look kd sz = scan c n a r (nx c n st b) (look + 1) (rd a (nx c n st b)) (look + 1) := by simp only [scan]; rw [if_neg hn, if_pos ha]
        rw [e] at h ⊢
        have h1 := hb (look + 1) (rd a (nx c n st b)) (look + 1)
        have h2 := scan_local r (nx c n st b) (look + 1) (rd a (nx c n st b)) (look + 1) (by simp only [List.length_cons] at h; omega) u
        rw [show (scan c n a r (nx c n st b) (look + 1) (rd a (nx c n st b)) (look + 1)).2.2 - look = ((scan c n a r (nx c n st b) (look + 1) (rd a (nx c n st b)) (look + 1)).2.2 - (look + 1)) + 1 from by omega, List.take_succ_cons, List.cons_append]
        rw [scan, if_neg hn, if_pos ha, h2]
      · have e : scan c n a (b :: r) st look kd sz = scan c n a r (nx c n st b) (look + 1) kd sz := by simp only [scan]; rw [if_neg hn, if_neg ha]
        rw [e] at h ⊢
        have h1 := hb (look + 1) kd sz
        have h2 := scan_local r (nx c n st b) (look + 1) kd sz (by simp only [List.length_cons] at h; omega) u
        rw [show (scan c n a r (nx c n st b) (look + 1) kd sz).2.2 - look = ((scan c n a r (nx c n st b) (look + 1) kd sz).2.2 - (look + 1)) + 1 from by omega, List.take_succ_cons, List.cons_append]
        rw [scan, if_neg hn, if_neg ha, h2]

/-- A text that begins with the examined bytes has the same first token. -/
theorem tk_local {t u : List UInt8} (ht : t ≠ []) (i : Nat) (h : (tk c n a t i).lk ≤ t.length) (j : Nat) : tk c n a (t.take (tk c n a t i).lk ++ u) j = { tk c n a t i with at_ := j } := by
  have e := scan_local (c := c) (n := n) (a := a) t 0 0 (-1) 1 (by simpa [tk] using h) u
  have hl := tk_len c n a ht i
  simp only [tk, Nat.sub_zero] at e hl h ⊢
  rw [e]
  refine congrArg (fun x => (⟨_, j, x, _⟩ : Tk)) ?_
  rw [List.take_append_of_le_length (by simp only [List.length_take] at hl ⊢; omega), List.take_take, Nat.min_eq_left (by simp only [List.length_take] at hl; omega)]

/-- The tokens of a text that stands elsewhere. -/
def Tk.sh (d : Nat) (x : Tk) : Tk := { x with at_ := x.at_ + d }
theorem tk_shift (t : List UInt8) (i d : Nat) : tk c n a t (i + d) = (tk c n a t i).sh d := rfl
theorem lx_shift : ∀ (m : Nat) (t : List UInt8) (i d : Nat), t.length ≤ m → lx c n a t (i + d) = (lx c n a t i).map (Tk.sh d) := by
  intro m
  induction m with
  | zero => intro t i d h; have : t = [] := List.length_eq_zero_iff.1 (by omega); subst this; rfl
  | succ m ih =>
    intro t i d h
    by_cases ht : t = []
    · subst ht; rfl
    · have hl := tk_len c n a ht i
      rw [lx_step c n a ht (i + d), lx_step c n a ht i, List.map_cons, tk_shift]
      have e : ((tk c n a t i).sh d).tx = (tk c n a t i).tx := rfl
      rw [e, show i + d + (tk c n a t i).tx.length = i + (tk c n a t i).tx.length + d from by omega, ih _ _ d (by simp only [List.length_drop]; omega)]
end

section
variable (c : List Int) (n : List (List Int)) (a : List Int)
/-- A run, as the reference makes it. -/
def stp (st : Int) (b : UInt8) : Int := if st < 0 then -1 else nx c n st b
def acc (st : Int) : Int := if st < 0 then -1 else rd a st
def runL (t : List UInt8) (st : Int) : Int := t.foldl (stp c n) st
theorem runL_dead (t : List UInt8) (st : Int) (h : st < 0) : runL c n t st < 0 := by
  induction t generalizing st with
  | nil => exact h
  | cons b r ih => exact ih _ (by simp only [stp]; rw [if_pos h]; omega)
theorem runL_cons (b : UInt8) (r : List UInt8) (st : Int) (h : 0 ≤ st) : runL c n (b :: r) st = runL c n r (nx c n st b) := by
  show runL c n r (stp c n st b) = _
  simp only [stp]; rw [if_neg (by omega)]

/-- What scanning finds: nothing is accepted beyond, or the last accepted part. -/
theorem scan_last : ∀ (t : List UInt8) (st : Int) (look : Nat) (kd : Int) (sz : Nat), 0 ≤ st →
    ((scan c n a t st look kd sz).1 = kd ∧ (scan c n a t st look kd sz).2.1 = sz ∧ ∀ m, 1 ≤ m → m ≤ t.length → acc a (runL c n (t.take m) st) < 0) ∨
    (∃ m, 1 ≤ m ∧ m ≤ t.length ∧ (scan c n a t st look kd sz).1 = acc a (runL c n (t.take m) st) ∧ 0 ≤ acc a (runL c n (t.take m) st) ∧ (scan c n a t st look kd sz).2.1 = look + m ∧ ∀ m', m < m' → m' ≤ t.length → acc a (runL c n (t.take m') st) < 0)
  | [], st, look, kd, sz, h => .inl ⟨rfl, rfl, fun m h1 h2 => by simp only [List.length_nil] at h2; omega⟩
  | b :: r, st, look, kd, sz, h => by
    have hc : ∀ m, 1 ≤ m → runL c n ((b :: r).take m) st = runL c n (r.take (m - 1)) (nx c n st b) := by
      intro m hm
      obtain ⟨m, rfl⟩ : ∃ k, m = k + 1 := ⟨m - 1, by omega⟩
      rw [List.take_succ_cons, runL_cons c n b _ st h]
      rfl
    by_cases hn : nx c n st b < 0
    · refine .inl ?_
      simp only [scan]
      rw [if_pos hn]
      refine ⟨rfl, rfl, fun m h1 h2 => ?_⟩
      rw [hc m h1]
      have := runL_dead c n (r.take (m - 1)) _ hn
      simp only [acc]; rw [if_pos this]; omega
    · by_cases ha : 0 ≤ rd a (nx c n st b)
      · have e : scan c n a (b :: r) st look kd sz = scan c n a r (nx c n st b) (look + 1) (rd a (nx c n st b)) (look + 1) := by simp only [scan]; rw [if_neg hn, if_pos ha]
        rw [e]
        rcases scan_last r (nx c n st b) (look + 1) (rd a (nx c n st b)) (look + 1) (by omega) with ⟨h1, h2, h3⟩ | ⟨m, h1, h2, h3, h4, h5, h6⟩
        · have e1 : acc a (runL c n ((b :: r).take 1) st) = rd a (nx c n st b) := by
            rw [hc 1 (by omega)]
            show acc a (nx c n st b) = _
            simp only [acc]; rw [if_neg hn]
          refine .inr ⟨1, by omega, by simp, by rw [e1]; exact h1, by rw [e1]; exact ha, by omega, fun m' h4 h5 => ?_⟩
          rw [hc m' (by omega)]
          exact h3 (m' - 1) (by omega) (by simp only [List.length_cons] at h5; omega)
        · refine .inr ⟨m + 1, by omega, by simp only [List.length_cons]; omega, by rw [hc _ (by omega)]; exact h3, by rw [hc _ (by omega)]; exact h4, by omega, fun m' h7 h8 => ?_⟩
          rw [hc m' (by omega)]
          exact h6 (m' - 1) (by omega) (by simp only [List.length_cons] at h8; omega)
      · have e : scan c n a (b :: r) st look kd sz = scan c n a r (nx c n st b) (look + 1) kd sz := by simp only [scan]; rw [if_neg hn, if_neg ha]
        rw [e]
        rcases scan_last r (nx c n st b) (look + 1) kd sz (by omega) with ⟨h1, h2, h3⟩ | ⟨m, h1, h2, h3, h4, h5, h6⟩
        · refine .inl ⟨h1, h2, fun m h4 h5 => ?_⟩
          rw [hc m h4]
          by_cases hm : m = 1
          · subst hm
            show acc a (nx c n st b) < 0
            simp only [acc]; rw [if_neg hn]; omega
          · exact h3 (m - 1) (by omega) (by simp only [List.length_cons] at h5; omega)
        · refine .inr ⟨m + 1, by omega, by simp only [List.length_cons]; omega, by rw [hc _ (by omega)]; exact h3, by rw [hc _ (by omega)]; exact h4, by omega, fun m' h7 h8 => ?_⟩
          rw [hc m' (by omega)]
          exact h6 (m' - 1) (by omega) (by simp only [List.length_cons] at h8; omega)

theorem runL_range (hv : VD c n a) (t : List UInt8) (st : Int) (h0 : -1 ≤ st) (h1 : st < (n.length : Int)) : -1 ≤ runL c n t st ∧ runL c n t st < (n.length : Int) := by
  induction t generalizing st with
  | nil => exact ⟨h0, h1⟩
  | cons b r ih =>
    show -1 ≤ runL c n r (stp c n st b) ∧ _
    by_cases h : st < 0
    · have : stp c n st b = -1 := by simp only [stp]; rw [if_pos h]
      exact ih _ (by omega) (by omega)
    · obtain ⟨_, _, _, n3, n4⟩ := nx_ok hv (by omega) h1 b
      have : stp c n st b = nx c n st b := by simp only [stp]; rw [if_neg h]
      rw [← this] at n3 n4
      exact ih _ n3 n4
theorem acc_range (hv : VD c n a) {st : Int} (h1 : st < (n.length : Int)) : -1 ≤ acc a st := by
  unfold acc
  split
  · omega
  · exact (hv.2.2.2.2 st (by omega) h1).2.1

/-- Maximal munch. -/
theorem tk_munch (hv : VD c n a) {t : List UInt8} (ht : t ≠ []) (i : Nat) :
    acc a (runL c n (t.take (tk c n a t i).tx.length) 0) = (tk c n a t i).k ∧
    ((tk c n a t i).k = -1 → (tk c n a t i).tx.length = 1) ∧ -1 ≤ (tk c n a t i).k ∧
    ∀ m, 1 ≤ m → m ≤ t.length → ((tk c n a t i).tx.length < m ∨ (m ≠ (tk c n a t i).tx.length ∧ (tk c n a t i).k = -1)) → acc a (runL c n (t.take m) 0) < 0 := by
  have hl := tk_len c n a ht i
  have hn := hv.2.1
  have hr : ∀ m, -1 ≤ acc a (runL c n (t.take m) 0) := fun m => acc_range c n a hv (runL_range c n a hv (t.take m) 0 (by omega) (by omega)).2
  rw [hl.2.2.2.2.2]
  rcases scan_last c n a t 0 0 (-1) 1 (by omega) with ⟨h1, h2, h3⟩ | ⟨m, h1, h2, h3, h4, h5, h6⟩
  · rw [h2]
    have e : (tk c n a t i).k = -1 := h1
    have := h3 1 (by omega) (by omega)
    have := hr 1
    exact ⟨by omega, fun _ => rfl, by omega, fun m m1 m2 _ => h3 m m1 m2⟩
  · rw [h5, Nat.zero_add]
    have e : (tk c n a t i).k = acc a (runL c n (t.take m) 0) := h3
    exact ⟨e.symm, fun h => by omega, by omega, fun m' m1 m2 hm => h6 m' (by omega) m2⟩
end
end Go.Proofs.Ytepjegfhlglajaa.Q
