/- More of the mathematics of maximal munch: tokens cover the text, the longest accepted part, locality, shifting, and a cursor in the list of tokens. No condition. -/
import Derived.Test.YtepjegfhlglajaaMQEvalB
namespace Go.Proofs.Ytepjegfhlglajaa.Q
set_option linter.unusedVariables false
open Go.RowKit Go.Proofs.YtepjegfhlglajaaW.PrintWords Go.Proofs.YtepjegfhlglajaaW.PrintLast Go.Proofs.YtepjegfhlglajaaW.PrintMore
section
variable {c : List Int} {n : List (List Int)} {a : List Int}
theorem cat_lx : ∀ (m : Nat) (t : List UInt8) (i : Nat), t.length ≤ m → cat ((lx c n a t i).map Tk.s) = t := by
  intro m
  induction m with
  | zero => intro t i h; have : t = [] := List.length_eq_zero_iff.1 (by omega); subst this; rfl
  | succ m ih =>
    intro t i h
    by_cases ht : t = []
    · subst ht; rfl
    · have hl := tk_len c n a ht i
      rw [lx_step c n a ht, List.map_cons, cat_cons, ih _ _ (by simp only [List.length_drop]; omega)]
      simp only [Tk.s, L_S]
      simp only [tk, List.length_take]
      have h2 : min (scan c n a t 0 0 (-1) 1).2.1 t.length = (scan c n a t 0 0 (-1) 1).2.1 := by
        have := hl.2.2.2.2.2; simp only [tk, List.length_take] at this; exact this
      rw [h2, List.take_append_drop]
/-- Where the cursor stands: at index i of the list l the tokens from offset off on. -/
def Cur (c : List Int) (n : List (List Int)) (a : List Int) (s : ByteArray) (l : List S32) (i off : Nat) : Prop := off ≤ s.size ∧ i ≤ off ∧ i ≤ l.length ∧ l.drop i = (lx c n a ((L s).drop off) off).map Tk.s
theorem cur_start (s : ByteArray) : Cur c n a s ((lx c n a (L s) 0).map Tk.s) 0 0 := ⟨by omega, by omega, by omega, by simp⟩
theorem cur_end {s : ByteArray} {l : List S32} {i off : Nat} (h : Cur c n a s l i off) (he : off = s.size) : l.length = i := by
  obtain ⟨h1, h2, h3, h4⟩ := h
  have e : (L s).drop off = [] := List.drop_of_length_le (by rw [L_length]; omega)
  rw [e] at h4
  have := congrArg List.length h4
  rw [List.length_drop] at this
  simp [lx_nil] at this
  omega
theorem drop_ne {s : ByteArray} {off : Nat} (h : off < s.size) : (L s).drop off ≠ [] := by
  intro h0
  have := congrArg List.length h0
  rw [List.length_drop, L_length, List.length_nil] at this
  omega
/-- The token at an offset. -/
def tko (c : List Int) (n : List (List Int)) (a : List Int) (s : ByteArray) (off : Nat) : Tk := tk c n a ((L s).drop off) off
theorem tko_len {s : ByteArray} {off : Nat} (h : off < s.size) : 1 ≤ (tko c n a s off).tx.length ∧ off + (tko c n a s off).tx.length ≤ s.size ∧ (tko c n a s off).tx.length ≤ (tko c n a s off).lk ∧ off + (tko c n a s off).lk ≤ s.size + 1 ∧ 1 ≤ (tko c n a s off).lk := by
  have := tk_len c n a (drop_ne h) off
  have h2 : ((L s).drop off).length = s.size - off := by rw [List.length_drop, L_length]
  unfold tko
  omega
theorem cur_step {s : ByteArray} {l : List S32} {i off : Nat} (h : Cur c n a s l i off) (hlt : off < s.size) :
    i < l.length ∧ l[i]? = some (tko c n a s off).s ∧ Cur c n a s l (i + 1) (off + (tko c n a s off).tx.length) := by
  obtain ⟨h1, h2, h3, h4⟩ := h
  have hl := tko_len (c := c) (n := n) (a := a) hlt
  rw [lx_step c n a (drop_ne hlt), List.map_cons] at h4
  have hi : i < l.length := by
    apply Nat.lt_of_not_le
    intro hn
    rw [List.drop_of_length_le hn] at h4
    cases h4
  rw [List.drop_eq_getElem_cons hi] at h4
  injection h4 with h5 h6
  refine ⟨hi, ?_, hl.2.1, by omega, by omega, ?_⟩
  · rw [List.getElem?_eq_getElem hi, h5]; rfl
  · rw [h6, drop_tk]; rfl
theorem scan_local : ∀ (t : List UInt8) (st : Int) (look : Nat) (kd : Int) (sz : Nat), (scan c n a t st look kd sz).2.2 ≤ look + t.length → ∀ u, scan c n a (t.take ((scan c n a t st look kd sz).2.2 - look) ++ u) st look kd sz = scan c n a t st look kd sz
  | [], st, look, kd, sz, h, u => by simp only [scan, List.length_nil] at h; omega
  | b :: r, st, look, kd, sz, h, u => by
    have hb : ∀ look' kd' sz', look' + 1 ≤ (scan c n a r (nx c n st b) look' kd' sz').2.2 := by
      have : ∀ (t : List UInt8) (st : Int) (look : Nat) (kd : Int) (sz : Nat), look + 1 ≤ (scan c n a t st look kd sz).2.2 := by
        intro t
        induction t with
        | nil => intro st look kd sz; simp [scan]
        | cons b r ih =>
          intro st look kd sz
          simp only [scan]
          split
          · simp
          · split
            · have := ih (nx c n st b) (look + 1) (rd a (nx c n st b)) (look + 1); omega
            · have := ih (nx c n st b) (look + 1) kd sz; omega
      intro look' kd' sz'
      exact this r _ look' kd' sz'
    by_cases hn : nx c n st b < 0
    · have e : scan c n a (b :: r) st look kd sz = (kd, sz, look + 1) := by simp only [scan]; rw [if_pos hn]
      rw [e]
      simp only [show look + 1 - look = 1 from by omega, List.take_succ_cons, List.take_zero, List.cons_append, List.nil_append, scan]
      rw [if_pos hn]
    · by_cases ha : 0 ≤ rd a (nx c n st b)
      · have e : scan c n a (b :: r) st look kd sz = scan c n a r (nx c n st b) (look + 1) (rd a (nx c n st b)) (look + 1) := by simp only [scan]; rw [if_neg hn, if_pos ha]
        rw [e] at h ⊢
        have h1 := hb (look + 1) (rd a (nx c n st b)) (look + 1)
        have h2 := scan_local r (nx c n st b) (look + 1) (rd a (nx c n st b)) (look + 1) (by simp only [List.length_cons] at h; omega) u
        rw [show (scan c n a r (nx c n st b) (look + 1) (rd a (nx c n st b)) (look + 1)).2.2 - look = ((scan c n a r (nx c n st b) (look + 1) (rd a (nx c n st b)) (look + 1)).2.2 - (look + 1)) + 1 from by omega, List.take_succ_cons, List.cons_append]
        rw [scan, if_neg hn, if_pos ha, h2]
      · have e : scan c n a (b :: r) st look kd sz = scan c n a r (nx c n st b) (look + 1) kd sz := by simp only [scan]; rw [if_neg hn, if_neg ha]
        rw [e] at h ⊢
        have h1 := hb (look + 1) kd sz
        have h2 := scan_local r (nx c n st b) (look + 1) kd sz (by simp only [List.length_cons] at h; omega) u
        rw [show (scan c n a r (nx c n st b) (look + 1) kd sz).2.2 - look = ((scan c n a r (nx c n st b) (look + 1) kd sz).2.2 - (look + 1)) + 1 from by omega, List.take_succ_cons, List.cons_append]
        rw [scan, if_neg hn, if_neg ha, h2]
/-- A text that begins with the examined bytes has the same first token. -/
theorem tk_local {t u : List UInt8} (ht : t ≠ []) (i : Nat) (h : (tk c n a t i).lk ≤ t.length) (j : Nat) : tk c n a (t.take (tk c n a t i).lk ++ u) j = { tk c n a t i with at_ := j } := by
  have e := scan_local (c := c) (n := n) (a := a) t 0 0 (-1) 1 (by simpa [tk] using h) u
  have hl := tk_len c n a ht i
  simp only [tk, Nat.sub_zero] at e hl h ⊢
  rw [e]
  refine congrArg (fun x => (⟨_, j, x, _⟩ : Tk)) ?_
  rw [List.take_append_of_le_length (by simp only [List.length_take] at hl ⊢; omega), List.take_take, Nat.min_eq_left (by simp only [List.length_take] at hl; omega)]
/-- The tokens of a text that stands elsewhere. -/
def Tk.sh (d : Nat) (x : Tk) : Tk := { x with at_ := x.at_ + d }
theorem tk_shift (t : List UInt8) (i d : Nat) : tk c n a t (i + d) = (tk c n a t i).sh d := rfl
theorem lx_shift : ∀ (m : Nat) (t : List UInt8) (i d : Nat), t.length ≤ m → lx c n a t (i + d) = (lx c n a t i).map (Tk.sh d) := by
  intro m
  induction m with
  | zero => intro t i d h; have : t = [] := List.length_eq_zero_iff.1 (by omega); subst this; rfl
  | succ m ih =>
    intro t i d h
    by_cases ht : t = []
    · subst ht; rfl
    · have hl := tk_len c n a ht i
      rw [lx_step c n a ht (i + d), lx_step c n a ht i, List.map_cons, tk_shift]
      have e : ((tk c n a t i).sh d).tx = (tk c n a t i).tx := rfl
      rw [e, show i + d + (tk c n a t i).tx.length = i + (tk c n a t i).tx.length + d from by omega, ih _ _ d (by simp only [List.length_drop]; omega)]
end
end Go.Proofs.Ytepjegfhlglajaa.Q
