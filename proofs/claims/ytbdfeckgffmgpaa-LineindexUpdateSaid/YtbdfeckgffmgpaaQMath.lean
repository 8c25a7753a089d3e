/- The mathematics of lines: where lines start, the position of an offset, the lines themselves; no program. No condition. -/
import Derived.Test.YtbdfeckgffmgpaaQ0
namespace Go.Proofs.Ytbdfeckgffmgpaa.Q
set_option linter.unusedVariables false
open Go.RowKit Go.Proofs.YtbdfeckgffmgpaaW.PrintWords Go.Proofs.YtbdfeckgffmgpaaW.PrintLast Go.Proofs.YtbdfeckgffmgpaaW.PrintMore

theorem wrap_id {x : Int} (h0 : -9223372036854775808 ≤ x) (h1 : x ≤ 9223372036854775807) : wrap64 x = x := by unfold wrap64; omega
theorem toNat_cast (i : Nat) : ((i : Int)).toNat = i := Int.toNat_natCast i
theorem toNat_cast2 (i j : Nat) : ((i : Int) + (j : Int)).toNat = i + j := by omega
theorem b_lt (b : UInt8) : (0 : Int) ≤ (b.toNat : Int) ∧ (b.toNat : Int) < 256 := by have := b.toNat_lt; omega
/-- A text's bytes. -/
def L (s : ByteArray) : List UInt8 := s.data.toList
/-- The text of a list of bytes. -/
def S (l : List UInt8) : ByteArray := ⟨l.toArray⟩
theorem L_S (l : List UInt8) : L (S l) = l := by show l.toArray.toList = l; exact List.toList_toArray ..
theorem S_L (s : ByteArray) : S (L s) = s := by unfold S L; rw [Array.toArray_toList]
theorem L_length (s : ByteArray) : (L s).length = s.size := by show s.data.toList.length = s.data.size; exact Array.length_toList ..
theorem S_size (l : List UInt8) : (S l).size = l.length := by rw [← L_length, L_S]
theorem S_inj {a b : List UInt8} (h : S a = S b) : a = b := by rw [← L_S a, h, L_S]
theorem L_inj {a b : ByteArray} (h : L a = L b) : a = b := by rw [← S_L a, h, S_L]
theorem L_append (a b : ByteArray) : L (a ++ b) = L a ++ L b := by simp [L]
theorem S_append (a b : List UInt8) : S a ++ S b = S (a ++ b) := by apply L_inj; rw [L_append, L_S, L_S, L_S]
theorem extract_S (s : ByteArray) (i j : Nat) : s.extract i j = S (((L s).drop i).take (j - i)) := by
  apply L_inj
  rw [L_S]
  simp [L, ByteArray.data_extract, List.extract_eq_take_drop]
theorem L_extract (s : ByteArray) (i j : Nat) : L (s.extract i j) = ((L s).drop i).take (j - i) := by rw [extract_S, L_S]
theorem bt_drop {s : ByteArray} {j : Nat} {b : UInt8} {r : List UInt8} (h : (L s).drop j = b :: r) : bt s (j : Int) = b.toNat := by
  have hl : j < s.size := by
    rw [← L_length]
    apply Nat.lt_of_not_le
    intro hn
    rw [List.drop_of_length_le hn] at h
    cases h
  have hl' : j < (L s).length := by rw [L_length]; exact hl
  have h0 : (L s)[j]? = some b := by
    have := List.getElem?_drop (xs := L s) (i := j) (j := 0)
    rw [h] at this
    simpa using this.symm
  have h1 : bt s (j : Int) = ((s[j]'hl).toNat : Int) := by
    unfold bt
    simp [hl]
  rw [h1]
  have h2 : (L s)[j]? = some (s[j]'hl) := by
    rw [List.getElem?_eq_getElem hl']
    rfl
  rw [h2] at h0
  injection h0 with h0
  rw [h0]

/-- Where lines start, but the first: from a text that stands at offset o. -/
def sts : List UInt8 → Nat → List Nat
  | [], _ => []
  | b :: r, o => if b = 10 then (o + 1) :: sts r (o + 1) else sts r (o + 1)
theorem sts_append : ∀ (x y : List UInt8) (o : Nat), sts (x ++ y) o = sts x o ++ sts y (o + x.length)
  | [], y, o => by simp [sts]
  | b :: r, y, o => by
    simp only [List.cons_append, sts, List.length_cons]
    rw [sts_append r y (o + 1), show o + 1 + r.length = o + (r.length + 1) from by omega]
    split <;> simp
theorem sts_mem : ∀ (x : List UInt8) (o n : Nat), n ∈ sts x o → o < n ∧ n ≤ o + x.length
  | [], o, n, h => by simp [sts] at h
  | b :: r, o, n, h => by
    simp only [sts] at h
    simp only [List.length_cons]
    split at h
    · rcases List.mem_cons.1 h with h | h
      · omega
      · have := sts_mem r (o + 1) n h; omega
    · have := sts_mem r (o + 1) n h; omega
theorem sts_length : ∀ (x : List UInt8) (o : Nat), (sts x o).length = x.count 10
  | [], o => by simp [sts]
  | b :: r, o => by
    simp only [sts]
    by_cases h : b = 10
    · rw [if_pos h, List.length_cons, sts_length r (o + 1), List.count_cons, h]; simp
    · rw [if_neg h, sts_length r (o + 1), List.count_cons]; simp [h]
def st (t : List UInt8) : List Nat := sts t 0
/-- How many line feeds are among the first i bytes. -/
def cn (t : List UInt8) (i : Nat) : Nat := (st (t.take i)).length
theorem st_split (t : List UInt8) (i : Nat) (h : i ≤ t.length) : st t = st (t.take i) ++ sts (t.drop i) i := by
  have := sts_append (t.take i) (t.drop i) 0
  rw [List.take_append_drop, List.length_take, Nat.min_eq_left h, Nat.zero_add] at this
  exact this
theorem cn_le (t : List UInt8) (i : Nat) (h : i ≤ t.length) : cn t i ≤ (st t).length := by rw [st_split t i h, List.length_append]; unfold cn; omega
theorem st_lt {t : List UInt8} {i j : Nat} (h : i ≤ t.length) (hj : j < (st t).length) : (st t)[j] ≤ i ↔ j < cn t i := by
  have e := st_split t i h
  by_cases hc : j < cn t i
  · refine ⟨fun _ => hc, fun _ => ?_⟩
    have hm : (st t)[j] ∈ st (t.take i) := by
      have : (st t)[j]? = (st (t.take i))[j]? := by rw [e, List.getElem?_append_left hc]
      rw [List.getElem?_eq_getElem hj] at this
      exact List.mem_of_getElem? this.symm
    have := sts_mem _ 0 _ hm
    rw [List.length_take] at this
    omega
  · refine ⟨fun h0 => ?_, fun h0 => absurd h0 hc⟩
    have hm : (st t)[j] ∈ sts (t.drop i) i := by
      have : (st t)[j]? = (sts (t.drop i) i)[j - cn t i]? := by
        have : (st t)[j]? = (st (t.take i) ++ sts (t.drop i) i)[j]? := by rw [← e]
        rw [this, List.getElem?_append_right (by unfold cn at hc; omega)]; rfl
      rw [List.getElem?_eq_getElem hj] at this
      exact List.mem_of_getElem? this.symm
    have := sts_mem _ i _ hm
    omega
theorem cn_zero (t : List UInt8) : cn t 0 = 0 := by simp [cn, st, sts]
theorem cn_all (t : List UInt8) : cn t t.length = (st t).length := by unfold cn; rw [List.take_length]
theorem cn_succ {t : List UInt8} {i : Nat} (h : i < t.length) : cn t (i + 1) = cn t i + if t[i] = 10 then 1 else 0 := by
  unfold cn
  rw [List.take_succ_eq_append_getElem h, st, sts_append, List.length_append]
  by_cases hb : t[i] = 10 <;> simp [sts, hb, st]
/-- At a line feed a line starts behind it. -/
theorem st_at {t : List UInt8} {i : Nat} (h : i < t.length) (hb : t[i] = 10) : (st t)[cn t i]? = some (i + 1) := by
  rw [st_split t i (by omega), List.getElem?_append_right (by unfold cn; omega)]
  have : t.drop i = t[i] :: t.drop (i + 1) := List.drop_eq_getElem_cons h
  rw [this]
  simp [sts, hb, cn]
/-- The start and the end of line n. -/
def frm (t : List UInt8) (n : Nat) : Nat := if n = 0 then 0 else (st t).getD (n - 1) 0
def too (t : List UInt8) (n : Nat) : Nat := if n < (st t).length then (st t).getD n 0 - 1 else t.length
theorem getD_get {l : List Nat} {j : Nat} (h : j < l.length) : l.getD j 0 = l[j] := by simp [List.getD_eq_getElem?_getD, h]
theorem st_bound {t : List UInt8} {j : Nat} (h : j < (st t).length) : 1 ≤ (st t)[j] ∧ (st t)[j] ≤ t.length := by
  have := sts_mem t 0 _ (List.getElem_mem h)
  omega
theorem frm_le {t : List UInt8} {i : Nat} (h : i ≤ t.length) : frm t (cn t i) ≤ i := by
  unfold frm
  split
  · omega
  · have hc := cn_le t i h
    rw [getD_get (by omega)]
    exact (st_lt h (by omega)).2 (by omega)
theorem le_too {t : List UInt8} {i : Nat} (h : i ≤ t.length) : i ≤ too t (cn t i) := by
  unfold too
  split
  · rename_i hc
    rw [getD_get hc]
    have := (st_lt h hc).1
    have := st_bound hc
    omega
  · exact h
/-- The offset of the byte before a start is a line feed, and it ends the line before. -/
theorem st_is {t : List UInt8} {j : Nat} (h : j < (st t).length) : ∃ i, ∃ hi : i < t.length, t[i] = 10 ∧ (st t)[j] = i + 1 ∧ cn t i = j := by
  have hb := st_bound h
  have key : ∀ (m : Nat), m ≤ t.length → j < cn t m → ∃ i, ∃ hi : i < t.length, t[i] = 10 ∧ (st t)[j] = i + 1 ∧ cn t i = j := by
    intro m
    induction m with
    | zero => intro _ h0; rw [cn_zero] at h0; omega
    | succ m ih =>
      intro hm h0
      by_cases hj : j < cn t m
      · exact ih (by omega) hj
      · have hs := cn_succ (t := t) (i := m) (by omega)
        by_cases hb : t[m] = 10
        · rw [if_pos hb] at hs
          have e : cn t m = j := by omega
          have := st_at (t := t) (i := m) (by omega) hb
          rw [e, List.getElem?_eq_getElem h] at this
          injection this with this
          exact ⟨m, by omega, hb, this, e⟩
        · rw [if_neg hb] at hs; omega
  exact key t.length (Nat.le_refl _) (by rw [cn_all]; exact h)
theorem frm_too {t : List UInt8} {n : Nat} (h : n ≤ (st t).length) : frm t n ≤ too t n ∧ too t n ≤ t.length := by
  by_cases hn : n < (st t).length
  · obtain ⟨i, hi, hb, e, ec⟩ := st_is hn
    have h1 : too t n = i := by unfold too; rw [if_pos hn, getD_get hn, e]; omega
    have h2 := frm_le (t := t) (i := i) (by omega)
    rw [ec] at h2
    omega
  · have hn' : n = (st t).length := by omega
    have h1 : too t n = t.length := by unfold too; rw [if_neg hn]
    have h2 := frm_le (t := t) (i := t.length) (Nat.le_refl _)
    rw [cn_all, ← hn'] at h2
    omega
theorem frm_succ {t : List UInt8} {n : Nat} (h : n < (st t).length) : frm t (n + 1) = too t n + 1 := by
  have := st_bound h
  unfold frm too
  rw [if_neg (by omega), if_pos h, Nat.add_sub_cancel, getD_get h]
  omega
theorem too_lf {t : List UInt8} {n : Nat} (h : n < (st t).length) : ∃ hi : too t n < t.length, t[too t n] = 10 := by
  obtain ⟨i, hi, hb, e, ec⟩ := st_is h
  have h1 : too t n = i := by unfold too; rw [if_pos h, getD_get h, e]; omega
  exact ⟨by omega, by simp only [h1]; exact hb⟩
/-- Between the start and the end of a line the count of line feeds stays. -/
theorem cn_line {t : List UInt8} {n i : Nat} (h : n ≤ (st t).length) (h1 : frm t n ≤ i) (h2 : i ≤ too t n) : cn t i = n := by
  have hft := frm_too h
  have hi : i ≤ t.length := by omega
  apply Nat.le_antisymm
  · apply Nat.le_of_not_lt
    intro hlt
    have hc := cn_le t i hi
    have hn : n < (st t).length := by omega
    have := (st_lt hi hn).2 hlt
    have h3 : too t n = (st t)[n] - 1 := by unfold too; rw [if_pos hn, getD_get hn]
    have := st_bound hn
    omega
  · by_cases h0 : n = 0
    · omega
    · have hn : n - 1 < (st t).length := by omega
      have h3 : frm t n = (st t)[n - 1] := by unfold frm; rw [if_neg h0, getD_get hn]
      have := (st_lt hi hn).1 (by omega)
      omega
theorem line_no_lf {t : List UInt8} {n i : Nat} (h : n ≤ (st t).length) (h1 : frm t n ≤ i) (h2 : i < too t n) : ∃ hi : i < t.length, t[i] ≠ 10 := by
  have hft := frm_too h
  refine ⟨by omega, fun hb => ?_⟩
  have hs := cn_succ (t := t) (i := i) (by omega)
  rw [if_pos hb, cn_line h h1 (by omega), cn_line h (by omega) (by omega)] at hs
  omega
/-- Line n. -/
def line (t : List UInt8) (n : Nat) : List UInt8 := (t.drop (frm t n)).take (too t n - frm t n)
def lns (t : List UInt8) : List (List UInt8) := (List.range ((st t).length + 1)).map (line t)
theorem line_length {t : List UInt8} {n : Nat} (h : n ≤ (st t).length) : (line t n).length = too t n - frm t n := by
  have := frm_too h
  unfold line
  rw [List.length_take, List.length_drop]
  omega
theorem lns_length (t : List UInt8) : (lns t).length = (st t).length + 1 := by simp [lns]
theorem lns_get {t : List UInt8} {n : Nat} (h : n ≤ (st t).length) : (lns t)[n]? = some (line t n) := by
  unfold lns
  rw [List.getElem?_map, List.getElem?_range (by omega)]
  rfl
theorem line_get {t : List UInt8} {n i : Nat} (h : n ≤ (st t).length) (hi : i < (line t n).length) : (line t n)[i] ≠ 10 := by
  have hl := line_length h
  obtain ⟨h1, h2⟩ := line_no_lf h (i := frm t n + i) (by omega) (by omega)
  have e : (line t n)[i]? = t[frm t n + i]? := by
    unfold line
    rw [List.getElem?_take, if_pos (by omega), List.getElem?_drop]
  rw [List.getElem?_eq_getElem hi, List.getElem?_eq_getElem h1] at e
  injection e with e
  rw [e]; exact h2
/-- The position of an offset, as the reference finds it. -/
def pos (t : List UInt8) (i : Nat) : Nat × Nat := (t.take i).foldl (fun p b => if b = 10 then (p.1 + 1, 0) else (p.1, p.2 + 1)) (0, 0)
theorem pos_succ {t : List UInt8} {i : Nat} (h : i < t.length) : pos t (i + 1) = if t[i] = 10 then ((pos t i).1 + 1, 0) else ((pos t i).1, (pos t i).2 + 1) := by
  unfold pos
  rw [List.take_succ_eq_append_getElem h, List.foldl_append]
  rfl
theorem pos_eq (t : List UInt8) : ∀ i, i ≤ t.length → pos t i = (cn t i, i - frm t (cn t i)) := by
  intro i
  induction i with
  | zero => intro _; rw [cn_zero]; simp [pos, frm]
  | succ i ih =>
    intro h
    rw [pos_succ (by omega), ih (by omega)]
    have hs := cn_succ (t := t) (i := i) (by omega)
    by_cases hb : t[i] = 10
    · rw [if_pos hb] at hs ⊢
      have ha := st_at (t := t) (i := i) (by omega) hb
      have hf : frm t (cn t (i + 1)) = i + 1 := by
        rw [hs]
        unfold frm
        rw [if_neg (by omega), Nat.add_sub_cancel, List.getD_eq_getElem?_getD, ha]
        rfl
      rw [hf, hs]
      simp
    · rw [if_neg hb] at hs ⊢
      have := frm_le (t := t) (i := i) (by omega)
      rw [show cn t (i + 1) = cn t i from by omega]
      exact Prod.ext rfl (by show i - frm t (cn t i) + 1 = i + 1 - frm t (cn t i); omega)
end Go.Proofs.Ytbdfeckgffmgpaa.Q
