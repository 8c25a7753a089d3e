/- The mathematics of maximal munch: scanning a list of bytes by an automaton, and the tokens of a text; no program. No condition. -/
import Derived.Test.YtepjegfhlglajaaMQ0
namespace Go.Proofs.Ytepjegfhlglajaa.Q
set_option linter.unusedVariables false
open Go.RowKit Go.Proofs.YtepjegfhlglajaaW.PrintWords Go.Proofs.YtepjegfhlglajaaW.PrintLast Go.Proofs.YtepjegfhlglajaaW.PrintMore
/-- A text's bytes. -/
def L (s : ByteArray) : List UInt8 := s.data.toList
/-- The text of a list of bytes. -/
def S (l : List UInt8) : ByteArray := ⟨l.toArray⟩
theorem L_S (l : List UInt8) : L (S l) = l := by show l.toArray.toList = l; exact List.toList_toArray ..
theorem S_L (s : ByteArray) : S (L s) = s := by unfold S L; rw [Array.toArray_toList]
theorem L_length (s : ByteArray) : (L s).length = s.size := by show s.data.toList.length = s.data.size; exact Array.length_toList ..
theorem S_size (l : List UInt8) : (S l).size = l.length := by rw [← L_length, L_S]
theorem L_inj {a b : ByteArray} (h : L a = L b) : a = b := by rw [← S_L a, h, S_L]
theorem L_append (a b : ByteArray) : L (a ++ b) = L a ++ L b := by simp [L]
theorem extract_S (s : ByteArray) (i j : Nat) : s.extract i j = S (((L s).drop i).take (j - i)) := by
  apply L_inj
  rw [L_S]
  simp [L, ByteArray.data_extract, List.extract_eq_take_drop]
theorem L_extract (s : ByteArray) (i j : Nat) : L (s.extract i j) = ((L s).drop i).take (j - i) := by rw [extract_S, L_S]
theorem bt_drop {s : ByteArray} {j : Nat} {b : UInt8} {r : List UInt8} (h : (L s).drop j = b :: r) : bt s (j : Int) = b.toNat := by
  have hl : j < s.size := by
    rw [← L_length]
    apply Nat.lt_of_not_le
    intro hn
    rw [List.drop_of_length_le hn] at h
    cases h
  have hl' : j < (L s).length := by rw [L_length]; exact hl
  have h0 : (L s)[j]? = some b := by
    have := List.getElem?_drop (xs := L s) (i := j) (j := 0)
    rw [h] at this
    simpa using this.symm
  have h1 : bt s (j : Int) = ((s[j]'hl).toNat : Int) := by
    unfold bt
    simp [hl]
  rw [h1]
  have h2 : (L s)[j]? = some (s[j]'hl) := by
    rw [List.getElem?_eq_getElem hl']
    rfl
  rw [h2] at h0
  injection h0 with h0
  rw [h0]
/-- A valid automaton. -/
def VD (c : List Int) (n : List (List Int)) (a : List Int) : Prop :=
  c.length = 256 ∧ 1 ≤ n.length ∧ a.length = n.length ∧ (∀ b : Int, 0 ≤ b → b < 256 → 0 ≤ rd c b ∧ rd c b < ((rd_L3 n 0).length : Int)) ∧
    (∀ s : Int, 0 ≤ s → s < (n.length : Int) → (rd_L3 n s).length = (rd_L3 n 0).length ∧ -1 ≤ rd a s ∧ ∀ k : Int, 0 ≤ k → k < ((rd_L3 n 0).length : Int) → -1 ≤ rd (rd_L3 n s) k ∧ rd (rd_L3 n s) k < (n.length : Int))
section
variable (c : List Int) (n : List (List Int)) (a : List Int)
/-- The successor of a state. -/
def nx (st : Int) (b : UInt8) : Int := rd (rd_L3 n st) (rd c (b.toNat : Int))
/-- From a state on: kind and length of the longest accepted part, and how many bytes were examined. -/
def scan : List UInt8 → Int → Nat → Int → Nat → Int × Nat × Nat
  | [], _, look, kd, sz => (kd, sz, look + 1)
  | b :: r, st, look, kd, sz =>
    if nx c n st b < 0 then (kd, sz, look + 1)
    else if 0 ≤ rd a (nx c n st b) then scan r (nx c n st b) (look + 1) (rd a (nx c n st b)) (look + 1)
    else scan r (nx c n st b) (look + 1) kd sz
structure Tk where
  k : Int
  at_ : Nat
  tx : List UInt8
  lk : Nat
deriving DecidableEq
def Tk.s (x : Tk) : S32 := ⟨x.k, x.at_, S x.tx, x.lk⟩
/-- The token at the head of a text; i: its offset. -/
def tk (t : List UInt8) (i : Nat) : Tk := ⟨(scan c n a t 0 0 (-1) 1).1, i, t.take (scan c n a t 0 0 (-1) 1).2.1, (scan c n a t 0 0 (-1) 1).2.2⟩
def toks : Nat → List UInt8 → Nat → List Tk
  | 0, _, _ => []
  | f + 1, t, i => if t = [] then [] else tk c n a t i :: toks f (t.drop (tk c n a t i).tx.length) (i + (tk c n a t i).tx.length)
/-- The tokens of a text that stands at offset i. -/
def lx (t : List UInt8) (i : Nat) : List Tk := toks c n a t.length t i
theorem scan_bounds : ∀ (t : List UInt8) (st : Int) (look : Nat) (kd : Int) (sz : Nat), 1 ≤ sz → sz ≤ look + 1 →
    1 ≤ (scan c n a t st look kd sz).2.1 ∧ (scan c n a t st look kd sz).2.1 ≤ (scan c n a t st look kd sz).2.2 ∧ (scan c n a t st look kd sz).2.1 ≤ max sz (look + t.length) ∧
      look + 1 ≤ (scan c n a t st look kd sz).2.2 ∧ (scan c n a t st look kd sz).2.2 ≤ look + t.length + 1
  | [], st, look, kd, sz, h1, h2 => by simp only [scan, List.length_nil]; omega
  | b :: r, st, look, kd, sz, h1, h2 => by
    simp only [scan, List.length_cons]
    split
    · simp only; omega
    · split
      · have := scan_bounds r (nx c n st b) (look + 1) (rd a (nx c n st b)) (look + 1) (by omega) (by omega)
        omega
      · have := scan_bounds r (nx c n st b) (look + 1) kd sz (by omega) (by omega)
        omega
theorem tk_len {t : List UInt8} (ht : t ≠ []) (i : Nat) : 1 ≤ (tk c n a t i).tx.length ∧ (tk c n a t i).tx.length ≤ t.length ∧ (tk c n a t i).tx.length ≤ (tk c n a t i).lk ∧ (tk c n a t i).lk ≤ t.length + 1 ∧ 1 ≤ (tk c n a t i).lk ∧
    (tk c n a t i).tx.length = (scan c n a t 0 0 (-1) 1).2.1 := by
  have hb := scan_bounds c n a t 0 0 (-1) 1 (by omega) (by omega)
  have hp := List.length_pos_iff.2 ht
  simp only [tk, List.length_take]
  omega
theorem toks_nil (f i : Nat) : toks c n a f [] i = [] := by cases f <;> simp [toks]
/-- More fuel changes nothing. -/
theorem toks_fuel : ∀ (f : Nat) (t : List UInt8) (i : Nat), t.length ≤ f → toks c n a f t i = lx c n a t i := by
  intro f
  induction f using Nat.strongRecOn with
  | ind f ih =>
    intro t i h
    cases f with
    | zero => have : t = [] := List.length_eq_zero_iff.1 (by omega); subst this; rfl
    | succ f =>
      cases t with
      | nil => rw [toks_nil]; rfl
      | cons b r =>
        have hl := tk_len c n a (t := b :: r) (by simp) i
        have e : lx c n a (b :: r) i = toks c n a (r.length + 1) (b :: r) i := rfl
        have hd : ((b :: r).drop (tk c n a (b :: r) i).tx.length).length ≤ r.length := by simp only [List.length_drop, List.length_cons]; omega
        rw [e]
        unfold toks
        rw [if_neg (by simp), if_neg (by simp)]
        congr 1
        by_cases hf : f = r.length
        · rw [hf]
        · rw [ih f (by omega) _ _ (by simp only [List.length_cons] at h; omega), ih r.length (by simp only [List.length_cons] at h; omega) _ _ hd]
theorem lx_nil (i : Nat) : lx c n a [] i = [] := rfl
theorem lx_step {t : List UInt8} (ht : t ≠ []) (i : Nat) : lx c n a t i = tk c n a t i :: lx c n a (t.drop (tk c n a t i).tx.length) (i + (tk c n a t i).tx.length) := by
  have hl := tk_len c n a ht i
  obtain ⟨b, r, rfl⟩ := List.exists_cons_of_ne_nil ht
  have e : lx c n a (b :: r) i = toks c n a (r.length + 1) (b :: r) i := rfl
  rw [e]
  unfold toks
  rw [if_neg (by simp)]
  congr 1
  refine toks_fuel c n a _ _ _ ?_
  simp only [List.length_drop, List.length_cons]; omega
theorem lx_length : ∀ (m : Nat) (t : List UInt8) (i : Nat), t.length ≤ m → (lx c n a t i).length ≤ t.length := by
  intro m
  induction m with
  | zero => intro t i h; have : t = [] := List.length_eq_zero_iff.1 (by omega); subst this; simp [lx_nil]
  | succ m ih =>
    intro t i h
    by_cases ht : t = []
    · subst ht; simp [lx_nil]
    · have hl := tk_len c n a ht i
      rw [lx_step c n a ht]
      have := ih (t.drop (tk c n a t i).tx.length) (i + (tk c n a t i).tx.length) (by simp only [List.length_drop]; omega)
      simp only [List.length_drop, List.length_cons] at this ⊢
      omega
end
end Go.Proofs.Ytepjegfhlglajaa.Q
