/- What the index of lines and its reference compute, told by the mathematics of lines. No condition. -/
import Derived.Test.YtbdfeckgffmgpaaQMath
import Derived.Test.YtbdfeckgffmgpaaQF10
import Derived.Test.YtbdfeckgffmgpaaQF11
import Derived.Test.YtbdfeckgffmgpaaQF12
import Derived.Test.YtbdfeckgffmgpaaQF13
import Derived.Test.YtbdfeckgffmgpaaQF15
import Derived.Test.YtbdfeckgffmgpaaQF16
import Derived.Test.YtbdfeckgffmgpaaQF17
import Derived.Test.YtbdfeckgffmgpaaQF18
import Derived.Test.YtbdfeckgffmgpaaQF19
import Derived.Test.YtbdfeckgffmgpaaQF22
import Derived.Test.YtbdfeckgffmgpaaQF25
namespace Go.Proofs.Ytbdfeckgffmgpaa.Q
set_option linter.unusedVariables false
open Go.RowKit Go.Proofs.YtbdfeckgffmgpaaW.PrintWords Go.Proofs.YtbdfeckgffmgpaaW.PrintLast Go.Proofs.YtbdfeckgffmgpaaW.PrintMore

/-- The starts as the index holds them. -/
def I (l : List Nat) : List Int := List.map (Nat.cast : Nat → Int) l
theorem I_length (l : List Nat) : (I l).length = l.length := by simp [I]
theorem rd_I {l : List Nat} {j : Nat} (h : j < l.length) : rd (I l) (j : Int) = (l[j] : Int) := by
  unfold rd I
  rw [Int.toNat_natCast, List.getD_eq_getElem?_getD, List.getElem?_map, List.getElem?_eq_getElem h]
  rfl
theorem L_get {s : ByteArray} {i : Nat} (h : i < s.size) : ∃ h' : i < (L s).length, bt s (i : Int) = ((L s)[i].toNat : Int) := by
  have h' : i < (L s).length := by rw [L_length]; exact h
  exact ⟨h', bt_drop (List.drop_eq_getElem_cons h')⟩
theorem is_lf {s : ByteArray} {i : Nat} (h : i < s.size) (h' : i < (L s).length) : bt s (i : Int) = 10 ↔ (L s)[i] = 10 := by
  obtain ⟨_, e⟩ := L_get h
  rw [e]
  constructor
  · intro h0
    have : (L s)[i].toNat = 10 := by omega
    exact UInt8.toNat_inj.1 this
  · intro h0; rw [h0]; rfl
theorem st_len_le (t : List UInt8) : (st t).length ≤ t.length := by unfold st; rw [sts_length]; exact List.count_le_length

theorem New_l0 (s : ByteArray) (hs : s.size ≤ 1048576) : ∀ (m i : Nat), s.size - i ≤ m → i ≤ s.size → Ev (fun k => lineindex_New.l0 k s (s.size : Int) i s (I (st ((L s).take i)))) (s, I (st (L s))) := by
  have hend : ∀ i : Nat, i = s.size → Ev (fun k => lineindex_New.l0 k s (s.size : Int) i s (I (st ((L s).take i)))) (s, I (st (L s))) := by
    intro i he
    rw [List.take_of_length_le (by rw [L_length]; omega)]
    refine Ev.step (f := fun _ => some (s, I (st (L s)))) (fun k => ?_) (Ev.now _)
    simp only [lineindex_New.l0]
    rw [if_neg (by omega)]
  intro m
  induction m with
  | zero => intro i h1 h2; exact hend i (by omega)
  | succ m ih =>
    intro i h1 h2
    by_cases he : i = s.size
    · exact hend i he
    · have hlt : i < s.size := by omega
      have h' : i < (L s).length := by rw [L_length]; exact hlt
      have hw : wrap64 ((i : Int) + 1) = ((i + 1 : Nat) : Int) := by rw [wrap_id (by omega) (by omega)]; norm_cast
      have hst : st ((L s).take (i + 1)) = st ((L s).take i) ++ if (L s)[i] = 10 then [i + 1] else [] := by
        rw [List.take_succ_eq_append_getElem h', st, sts_append, List.length_take, Nat.min_eq_left (by omega), Nat.zero_add]
        by_cases hb : (L s)[i] = 10 <;> simp [sts, hb, st]
      have hlen := st_len_le ((L s).take i)
      rw [List.length_take] at hlen
      by_cases hb : bt s (i : Int) = 10
      · rw [if_pos ((is_lf hlt h').1 hb)] at hst
        refine Ev.step (fun k => ?_) (ih (i + 1) (by omega) (by omega))
        simp only [lineindex_New.l0]
        rw [if_pos (by omega), if_pos (by omega), if_pos (by omega), if_pos hb, if_pos (by rw [I_length]; omega), hw, hst]
        simp [I]
      · rw [if_neg (fun h0 => hb ((is_lf hlt h').2 h0)), List.append_nil] at hst
        refine Ev.step (fun k => ?_) (ih (i + 1) (by omega) (by omega))
        simp only [lineindex_New.l0]
        rw [if_pos (by omega), if_pos (by omega), if_pos (by omega), if_neg hb, hw, hst]
theorem New_ev (s : ByteArray) (hs : s.size ≤ 1048576) : Ev (fun k => lineindex_New.f k s) (s, I (st (L s))) := by
  have := New_l0 s hs s.size 0 (by omega) (by omega)
  exact this

theorem Lines_f (s : ByteArray) (hs : s.size ≤ 1048576) : lineindex_Index_Lines.f s (I (st (L s))) = some (((st (L s)).length + 1 : Nat) : Int) := by
  have := st_len_le (L s)
  rw [L_length] at this
  unfold lineindex_Index_Lines.f
  rw [I_length, wrap_id (by omega) (by omega)]
  norm_cast
theorem span_f (s : ByteArray) (hs : s.size ≤ 1048576) {n : Nat} (h : n ≤ (st (L s)).length) : lineindex_Index_span.f s (I (st (L s))) n = some ((frm (L s) n : Int), (too (L s) n : Int)) := by
  have hl := st_len_le (L s)
  rw [L_length] at hl
  have hft := frm_too h
  unfold lineindex_Index_span.f
  rw [I_length]
  by_cases h0 : n = 0
  · subst h0
    rw [if_neg (by omega)]
    by_cases h1 : 0 < (st (L s)).length
    · have hb := st_bound h1
      have e1 : (frm (L s) 0 : Int) = 0 := by simp [frm]
      have e2 : (too (L s) 0 : Int) = ((st (L s))[0] : Int) - 1 := by unfold too; rw [if_pos h1, getD_get h1]; omega
      have := rd_I h1
      rw [L_length] at hb
      rw [if_pos (by omega), if_pos (by omega), this, wrap_id (by omega) (by omega), e1, e2]
    · have e1 : (frm (L s) 0 : Int) = 0 := by simp [frm]
      have e2 : (too (L s) 0 : Int) = (s.size : Int) := by unfold too; rw [if_neg h1, L_length]
      rw [if_neg (by omega), e1, e2]
  · have hn1 : n - 1 < (st (L s)).length := by omega
    have hb1 := st_bound hn1
    have e1 : (frm (L s) n : Int) = ((st (L s))[n - 1] : Int) := by unfold frm; rw [if_neg h0, getD_get hn1]
    have r1 := rd_I hn1
    have hc : ((n - 1 : Nat) : Int) = (n : Int) - 1 := by omega
    rw [hc] at r1
    rw [if_pos (by omega), wrap_id (x := (n : Int) - 1) (by omega) (by omega), if_pos (by omega), if_pos (by omega), r1]
    by_cases h1 : n < (st (L s)).length
    · have hb := st_bound h1
      rw [L_length] at hb
      have e2 : (too (L s) n : Int) = ((st (L s))[n] : Int) - 1 := by unfold too; rw [if_pos h1, getD_get h1]; omega
      rw [if_pos (by omega), if_pos (by omega), rd_I h1, wrap_id (by omega) (by omega), e1, e2]
    · have e2 : (too (L s) n : Int) = (s.size : Int) := by unfold too; rw [if_neg h1, L_length]
      rw [if_neg (by omega), e1, e2]

theorem bsr_f (xs : List Int) (off : Int) (c : Nat) (hc : c ≤ xs.length) (hx : ∀ j : Nat, j < xs.length → (rd xs (j : Int) ≤ off ↔ j < c)) : ∀ (k i j : Nat), i ≤ c → c ≤ j → j ≤ xs.length → j - i < k → bsr xs off k i j = some (c : Int) := by
  intro k
  induction k with
  | zero => intro i j h1 h2 h3 h4; omega
  | succ k ih =>
    intro i j h1 h2 h3 h4
    simp only [bsr]
    by_cases h0 : i < j
    · rw [if_pos (by omega)]
      have e : ((i : Int) + j) / 2 = (((i + j) / 2 : Nat) : Int) := by omega
      have hm : (i + j) / 2 < xs.length := by omega
      have := hx _ hm
      rw [e]
      by_cases h5 : rd xs (((i + j) / 2 : Nat) : Int) > off
      · rw [if_pos h5]
        exact ih i ((i + j) / 2) h1 (by omega) (by omega) (by omega)
      · rw [if_neg h5]
        have := ih ((i + j) / 2 + 1) j (by omega) h2 h3 (by omega)
        rw [← this]; norm_cast
    · rw [if_neg (by omega)]
      have : i = c := by omega
      rw [this]
theorem Position_f (s : ByteArray) (hs : s.size ≤ 1048576) {i : Nat} (h : i ≤ s.size) : lineindex_Index_Position.f s (I (st (L s))) i = some ((cn (L s) i : Int), ((i - frm (L s) (cn (L s) i) : Nat) : Int), 0) := by
  have hi : i ≤ (L s).length := by rw [L_length]; exact h
  have hc := cn_le (L s) i hi
  have hl := st_len_le (L s)
  rw [L_length] at hl
  have hf := frm_le hi
  have hb := bsr_f (I (st (L s))) (i : Int) (cn (L s) i) (by rw [I_length]; exact hc) (fun j hj => by
    rw [I_length] at hj
    rw [rd_I hj]
    have := st_lt hi hj
    omega) ((I (st (L s))).length + 1) 0 (I (st (L s))).length (by omega) (by rw [I_length]; exact hc) (Nat.le_refl _) (by omega)
  unfold lineindex_Index_Position.f
  rw [if_neg (by omega), if_neg (by omega), if_pos (by rw [I_length]; omega)]
  have hb' : bsr (I (st (L s))) (i : Int) ((I (st (L s))).length + 1) 0 ((I (st (L s))).length : Int) = some (cn (L s) i : Int) := hb
  rw [hb']
  simp only [Option.bind_some]
  rw [span_f s hs hc]
  simp only [Option.bind_some]
  rw [wrap_id (by omega) (by omega), show ((i - frm (L s) (cn (L s) i) : Nat) : Int) = (i : Int) - frm (L s) (cn (L s) i) from by omega]
theorem Position_out (s : ByteArray) (xs : List Int) {i : Int} (h : i < 0 ∨ (s.size : Int) < i) : lineindex_Index_Position.f s xs i = some (0, 0, 2) := by
  unfold lineindex_Index_Position.f
  by_cases h0 : i < 0
  · rw [if_pos h0]
  · rw [if_neg h0, if_pos (by omega)]
theorem Line_f (s : ByteArray) (hs : s.size ≤ 1048576) {n : Nat} (h : n ≤ (st (L s)).length) : lineindex_Index_Line.f s (I (st (L s))) n = some (S (line (L s) n), 0) := by
  have hft := frm_too h
  unfold lineindex_Index_Line.f
  rw [if_neg (by omega), Lines_f s hs]
  simp only [Option.bind_some]
  rw [if_neg (by omega), span_f s hs h]
  simp only [Option.bind_some]
  rw [L_length] at hft
  rw [if_pos (by omega), if_pos (by omega), if_pos (by omega), toNat_cast, toNat_cast, extract_S]
  rfl
theorem Line_out (s : ByteArray) (hs : s.size ≤ 1048576) {n : Int} (h : n < 0 ∨ (((st (L s)).length + 1 : Nat) : Int) ≤ n) : lineindex_Index_Line.f s (I (st (L s))) n = some (⟨#[]⟩, 2) := by
  unfold lineindex_Index_Line.f
  by_cases h0 : n < 0
  · rw [if_pos h0]
  · rw [if_neg h0, Lines_f s hs]
    simp only [Option.bind_some]
    rw [if_pos (by omega)]
theorem Offset_f (s : ByteArray) (hs : s.size ≤ 1048576) {n : Nat} (h : n ≤ (st (L s)).length) (col : Int) :
    Ev (fun k => lineindex_Index_Offset.f k s (I (st (L s))) n col) (if col < 0 ∨ (((line (L s) n).length : Nat) : Int) < col then (0, 2) else ((frm (L s) n : Int) + col, 0)) := by
  have hft := frm_too h
  rw [L_length] at hft
  have hll := line_length h
  refine Ev.congr (f := fun k => lineindex_Index_Offset.j0 k false s (I (st (L s))) n col) (fun k => ?_) (Ev.step (f := fun _ => some (if col < 0 ∨ (((line (L s) n).length : Nat) : Int) < col then (0, 2) else ((frm (L s) n : Int) + col, 0))) (fun k => ?_) (Ev.now _))
  · unfold lineindex_Index_Offset.f
    rw [if_neg (by omega), Lines_f s hs]
    simp only [Option.bind_some]
    rw [decide_eq_false (by omega)]
  · simp only [lineindex_Index_Offset.j0]
    rw [if_neg (by simp), span_f s hs h]
    simp only [Option.bind_some]
    rw [wrap_id (x := (too (L s) n : Int) - frm (L s) n) (by omega) (by omega)]
    by_cases c1 : col < 0
    · rw [if_pos c1, if_pos (.inl c1)]
    · by_cases c2 : col > (too (L s) n : Int) - frm (L s) n
      · rw [if_neg c1, if_pos c2, if_pos (.inr (by omega))]
      · rw [if_neg c1, if_neg c2, if_neg (by omega), wrap_id (by omega) (by omega)]
theorem Offset_out (s : ByteArray) (hs : s.size ≤ 1048576) {n : Int} (h : n < 0 ∨ (((st (L s)).length + 1 : Nat) : Int) ≤ n) (col : Int) :
    Ev (fun k => lineindex_Index_Offset.f k s (I (st (L s))) n col) (0, 2) := by
  refine Ev.congr (f := fun k => lineindex_Index_Offset.j0 k true s (I (st (L s))) n col) (fun k => ?_) (Ev.step (f := fun _ => some (0, 2)) (fun k => ?_) (Ev.now _))
  · unfold lineindex_Index_Offset.f
    by_cases h0 : n < 0
    · rw [if_pos h0]
    · rw [if_neg h0, Lines_f s hs]
      simp only [Option.bind_some]
      rw [decide_eq_true (by omega)]
  · simp only [lineindex_Index_Offset.j0]
    rw [if_pos trivial]

/-! The reference. -/
theorem rPos_l0 (s : ByteArray) (hs : s.size ≤ 1048576) (e : Nat) (he : e ≤ s.size) : ∀ (m i : Nat), e - i ≤ m → i ≤ e → Ev (fun k => emendateref04_Position.l0 k s e i ((pos (L s) i).1 : Int) ((pos (L s) i).2 : Int)) ((cn (L s) e : Int), ((e - frm (L s) (cn (L s) e) : Nat) : Int), 0) := by
  have hend : ∀ i : Nat, i = e → Ev (fun k => emendateref04_Position.l0 k s e i ((pos (L s) i).1 : Int) ((pos (L s) i).2 : Int)) ((cn (L s) e : Int), ((e - frm (L s) (cn (L s) e) : Nat) : Int), 0) := by
    intro i hi
    refine Ev.step (f := fun _ => some ((cn (L s) e : Int), ((e - frm (L s) (cn (L s) e) : Nat) : Int), 0)) (fun k => ?_) (Ev.now _)
    simp only [emendateref04_Position.l0]
    rw [if_neg (by omega), hi, pos_eq (L s) e (by rw [L_length]; exact he)]
  intro m
  induction m with
  | zero => intro i h1 h2; exact hend i (by omega)
  | succ m ih =>
    intro i h1 h2
    by_cases hie : i = e
    · exact hend i hie
    · have hlt : i < s.size := by omega
      have h' : i < (L s).length := by rw [L_length]; exact hlt
      have hw : wrap64 ((i : Int) + 1) = ((i + 1 : Nat) : Int) := by rw [wrap_id (by omega) (by omega)]; norm_cast
      have hp := pos_succ h'
      have hb1 : (pos (L s) i).1 ≤ i ∧ (pos (L s) i).2 ≤ i := by
        rw [pos_eq (L s) i (by omega)]
        have h3 := cn_le ((L s).take i) i
        have h4 := st_len_le ((L s).take i)
        rw [List.length_take] at h4
        exact ⟨by show cn (L s) i ≤ i; unfold cn; omega, by show i - _ ≤ i; omega⟩
      by_cases hb : bt s (i : Int) = 10
      · rw [if_pos ((is_lf hlt h').1 hb)] at hp
        refine Ev.step (fun k => ?_) (ih (i + 1) (by omega) (by omega))
        simp only [emendateref04_Position.l0]
        rw [if_pos (by omega), if_pos (by omega), if_pos (by omega), if_pos hb, hw, hp, wrap_id (x := ((pos (L s) i).1 : Int) + 1) (by omega) (by omega)]
        norm_cast
      · rw [if_neg (fun h0 => hb ((is_lf hlt h').2 h0))] at hp
        refine Ev.step (fun k => ?_) (ih (i + 1) (by omega) (by omega))
        simp only [emendateref04_Position.l0]
        rw [if_pos (by omega), if_pos (by omega), if_pos (by omega), if_neg hb, hw, hp, wrap_id (x := ((pos (L s) i).2 : Int) + 1) (by omega) (by omega)]
        norm_cast
theorem rPosition_ev (s : ByteArray) (hs : s.size ≤ 1048576) {i : Nat} (h : i ≤ s.size) : Ev (fun k => emendateref04_Position.f k s i) ((cn (L s) i : Int), ((i - frm (L s) (cn (L s) i) : Nat) : Int), 0) := by
  refine Ev.congr (f := fun k => emendateref04_Position.j0 k s i false) (fun k => ?_) (Ev.step (fun k => ?_) (rPos_l0 s hs i h i 0 (by omega) (by omega)))
  · unfold emendateref04_Position.f
    rw [if_neg (by omega), decide_eq_false (by omega)]
  · simp only [emendateref04_Position.j0]
    rw [if_neg (by simp)]
    rfl
theorem rPosition_out (s : ByteArray) {i : Int} (h : i < 0 ∨ (s.size : Int) < i) : Ev (fun k => emendateref04_Position.f k s i) (0, 0, 2) := by
  refine Ev.congr (f := fun k => emendateref04_Position.j0 k s i true) (fun k => ?_) (Ev.step (f := fun _ => some (0, 0, 2)) (fun k => ?_) (Ev.now _))
  · unfold emendateref04_Position.f
    by_cases h0 : i < 0
    · rw [if_pos h0]
    · rw [if_neg h0, decide_eq_true (by omega)]
  · simp only [emendateref04_Position.j0]
    rw [if_pos trivial]

/-- The lines as the reference returns them. -/
def LS (s : ByteArray) : List ByteArray := (lns (L s)).map S
theorem LS_length (s : ByteArray) : (LS s).length = (st (L s)).length + 1 := by unfold LS; rw [List.length_map, lns_length]
theorem LS_get {s : ByteArray} {n : Nat} (h : n ≤ (st (L s)).length) : rdOf ByteArray.empty (LS s) (n : Int) = S (line (L s) n) := by
  unfold rdOf LS
  rw [Int.toNat_natCast, List.getD_eq_getElem?_getD, List.getElem?_map, lns_get h]
  rfl
theorem rLines_l0 (s : ByteArray) (hs : s.size ≤ 1048576) : ∀ (m i : Nat), s.size - i ≤ m → i ≤ s.size →
    Ev (fun k => emendateref04_Lines.l0 k s (((List.range (cn (L s) i)).map (line (L s))).map S) (frm (L s) (cn (L s) i)) i) (LS s) := by
  have hst := st_len_le (L s)
  rw [L_length] at hst
  have hend : ∀ i : Nat, i = s.size → Ev (fun k => emendateref04_Lines.l0 k s (((List.range (cn (L s) i)).map (line (L s))).map S) (frm (L s) (cn (L s) i)) i) (LS s) := by
    intro i he
    have hcn : cn (L s) i = (st (L s)).length := by rw [he, ← L_length, cn_all]
    have hft := frm_too (t := L s) (n := (st (L s)).length) (Nat.le_refl _)
    have htoo : too (L s) (st (L s)).length = (L s).length := by unfold too; rw [if_neg (by omega)]
    rw [L_length] at hft htoo
    rw [hcn]
    refine Ev.step (f := fun _ => some (LS s)) (fun k => ?_) (Ev.now _)
    simp only [emendateref04_Lines.l0]
    rw [if_neg (by omega), if_pos (by omega), if_pos (by omega), if_pos (by simp; omega)]
    unfold LS lns
    rw [List.range_succ, List.map_append, List.map_append]
    simp only [List.map_cons, List.map_nil]
    rw [toNat_cast, extract_S]
    unfold line
    rw [htoo]
  intro m
  induction m with
  | zero => intro i h1 h2; exact hend i (by omega)
  | succ m ih =>
    intro i h1 h2
    by_cases he : i = s.size
    · exact hend i he
    · have hlt : i < s.size := by omega
      have h' : i < (L s).length := by rw [L_length]; exact hlt
      have hw : wrap64 ((i : Int) + 1) = ((i + 1 : Nat) : Int) := by rw [wrap_id (by omega) (by omega)]; norm_cast
      have hcs := cn_succ h'
      have hf := frm_le (t := L s) (i := i) (by omega)
      have hcl := cn_le (L s) i (by omega)
      by_cases hb : bt s (i : Int) = 10
      · have hb' := (is_lf hlt h').1 hb
        rw [if_pos hb'] at hcs
        have ha := st_at h' hb'
        have hlt2 : cn (L s) i < (st (L s)).length := (List.getElem?_eq_some_iff.1 ha).1
        have htoo : too (L s) (cn (L s) i) = i := by
          unfold too
          rw [if_pos hlt2, List.getD_eq_getElem?_getD, ha]
          simp
        have hfs := frm_succ hlt2
        rw [htoo] at hfs
        have := ih (i + 1) (by omega) (by omega)
        rw [hcs] at this
        refine Ev.step (fun k => ?_) this
        simp only [emendateref04_Lines.l0]
        rw [if_pos (by omega), if_pos (by omega), if_pos hb, if_pos (by omega), if_pos (by omega), if_pos (by omega), if_pos (by simp; omega), hw, hfs, List.range_succ, List.map_append, List.map_append]
        simp only [List.map_cons, List.map_nil]
        rw [toNat_cast, toNat_cast, extract_S]
        unfold line
        rw [htoo]
      · rw [if_neg (fun h0 => hb ((is_lf hlt h').2 h0))] at hcs
        have hcs' : cn (L s) (i + 1) = cn (L s) i := by omega
        have := ih (i + 1) (by omega) (by omega)
        rw [hcs'] at this
        refine Ev.step (fun k => ?_) this
        simp only [emendateref04_Lines.l0]
        rw [if_pos (by omega), if_pos (by omega), if_neg hb, hw]
theorem rLines_ev (s : ByteArray) (hs : s.size ≤ 1048576) : Ev (fun k => emendateref04_Lines.f k s) (LS s) := by
  have := rLines_l0 s hs s.size 0 (by omega) (by omega)
  rw [cn_zero] at this
  exact this
theorem rLine_ev (s : ByteArray) (hs : s.size ≤ 1048576) {n : Nat} (h : n ≤ (st (L s)).length) : Ev (fun k => emendateref04_Line.f k s n) (S (line (L s) n), 0) := by
  refine Ev.bind (rLines_ev s hs) (Ev.congr (fun k => ?_) (Ev.now _))
  rw [if_neg (by omega), if_neg (by rw [LS_length]; omega), if_pos (by omega), if_pos (by rw [LS_length]; omega), LS_get h]
theorem rLine_out (s : ByteArray) (hs : s.size ≤ 1048576) {n : Int} (h : n < 0 ∨ (((st (L s)).length + 1 : Nat) : Int) ≤ n) : Ev (fun k => emendateref04_Line.f k s n) (⟨#[]⟩, 2) := by
  refine Ev.bind (rLines_ev s hs) (Ev.congr (fun k => ?_) (Ev.now _))
  by_cases h0 : n < 0
  · rw [if_pos h0]
  · rw [if_neg h0, if_pos (by rw [LS_length]; omega)]
theorem rOff_l0 (s : ByteArray) (hs : s.size ≤ 1048576) (n : Nat) (h : n ≤ (st (L s)).length) (col x : Int) (hx0 : 0 ≤ x) (hx1 : x ≤ 1048576) : ∀ (m i : Nat), n - i ≤ m → i ≤ n →
    Ev (fun k => emendateref04_Offset.l0 k (LS s) ((frm (L s) i : Int) + x) i n col) ((frm (L s) n : Int) + x, 0) := by
  have hend : ∀ i : Nat, i = n → Ev (fun k => emendateref04_Offset.l0 k (LS s) ((frm (L s) i : Int) + x) i n col) ((frm (L s) n : Int) + x, 0) := by
    intro i he
    refine Ev.step (f := fun _ => some ((frm (L s) n : Int) + x, 0)) (fun k => ?_) (Ev.now _)
    simp only [emendateref04_Offset.l0]
    rw [if_neg (by omega), he]
  intro m
  induction m with
  | zero => intro i h1 h2; exact hend i (by omega)
  | succ m ih =>
    intro i h1 h2
    by_cases he : i = n
    · exact hend i he
    · have hst := st_len_le (L s)
      rw [L_length] at hst
      have hw : wrap64 ((i : Int) + 1) = ((i + 1 : Nat) : Int) := by rw [wrap_id (by omega) (by omega)]; norm_cast
      have hnext := ih (i + 1) (by omega) (by omega)
      have hll := line_length (t := L s) (n := i) (by omega)
      have hft := frm_too (t := L s) (n := i) (by omega)
      have hfs := frm_succ (t := L s) (n := i) (by omega)
      rw [L_length] at hft
      refine Ev.step (fun k => ?_) hnext
      simp only [emendateref04_Offset.l0]
      rw [if_pos (by omega), if_pos (by omega), if_pos (by rw [LS_length]; omega), LS_get (by omega), S_size, hw, wrap_id (x := (frm (L s) i : Int) + x + (line (L s) i).length) (by omega) (by omega), wrap_id (x := (frm (L s) i : Int) + x + (line (L s) i).length + 1) (by omega) (by omega)]
      rw [show (frm (L s) i : Int) + x + (line (L s) i).length + 1 = (frm (L s) (i + 1) : Int) + x from by omega]
theorem rOffset_ev (s : ByteArray) (hs : s.size ≤ 1048576) {n : Nat} (h : n ≤ (st (L s)).length) (col : Int) :
    Ev (fun k => emendateref04_Offset.f k s n col) (if col < 0 ∨ (((line (L s) n).length : Nat) : Int) < col then (0, 2) else ((frm (L s) n : Int) + col, 0)) := by
  have hno : Ev (fun k => emendateref04_Offset.j0 k (LS s) true n col) (0, 2) := by
    refine Ev.step (f := fun _ => some (0, 2)) (fun k => ?_) (Ev.now _)
    simp only [emendateref04_Offset.j0]
    rw [if_pos trivial]
  refine Ev.bind (rLines_ev s hs) ?_
  have hll := line_length h
  have hft := frm_too h
  rw [L_length] at hft
  by_cases c1 : col < 0
  · rw [if_pos (.inl c1)]
    exact Ev.congr (fun k => by rw [if_neg (by omega), if_neg (by rw [LS_length]; omega), if_pos c1]) hno
  · by_cases c2 : (((line (L s) n).length : Nat) : Int) < col
    · rw [if_pos (.inr c2)]
      exact Ev.congr (fun k => by rw [if_neg (by omega), if_neg (by rw [LS_length]; omega), if_neg c1, if_pos (by omega), if_pos (by rw [LS_length]; omega), LS_get h, S_size, decide_eq_true c2]) hno
    · rw [if_neg (by omega)]
      have := rOff_l0 s hs n h col col (by omega) (by omega) n 0 (by omega) (by omega)
      refine Ev.congr (f := fun k => emendateref04_Offset.j0 k (LS s) false n col) (fun k => by rw [if_neg (by omega), if_neg (by rw [LS_length]; omega), if_neg c1, if_pos (by omega), if_pos (by rw [LS_length]; omega), LS_get h, S_size, decide_eq_false c2]) (Ev.step (fun k => ?_) this)
      simp only [emendateref04_Offset.j0]
      rw [if_neg (by simp)]
      simp [frm]
theorem rOffset_out (s : ByteArray) (hs : s.size ≤ 1048576) {n : Int} (h : n < 0 ∨ (((st (L s)).length + 1 : Nat) : Int) ≤ n) (col : Int) :
    Ev (fun k => emendateref04_Offset.f k s n col) (0, 2) := by
  have hno : Ev (fun k => emendateref04_Offset.j0 k (LS s) true n col) (0, 2) := by
    refine Ev.step (f := fun _ => some (0, 2)) (fun k => ?_) (Ev.now _)
    simp only [emendateref04_Offset.j0]
    rw [if_pos trivial]
  refine Ev.bind (rLines_ev s hs) ?_
  by_cases h0 : n < 0
  · exact Ev.congr (fun k => by rw [if_pos h0]) hno
  · exact Ev.congr (fun k => by rw [if_neg h0, if_pos (by rw [LS_length]; omega)]) hno

/-! The examples of the document. -/
theorem awake_ev : Ev (fun k => emendatelaw04_awake.f k) true := by
  have n1 := New_ev ⟨#[97, 98, 10, 10, 99, 100]⟩ (by decide)
  have p2 : lineindex_Index_Position.f ⟨#[97, 98, 10, 10, 99, 100]⟩ (I (st (L ⟨#[97, 98, 10, 10, 99, 100]⟩))) 2 = some (0, 2, 0) := (Position_f ⟨#[97, 98, 10, 10, 99, 100]⟩ (by decide) (i := 2) (by decide)).trans (by decide)
  have p3 : lineindex_Index_Position.f ⟨#[97, 98, 10, 10, 99, 100]⟩ (I (st (L ⟨#[97, 98, 10, 10, 99, 100]⟩))) 3 = some (1, 0, 0) := (Position_f ⟨#[97, 98, 10, 10, 99, 100]⟩ (by decide) (i := 3) (by decide)).trans (by decide)
  have ll : lineindex_Index_Lines.f ⟨#[97, 98, 10, 10, 99, 100]⟩ (I (st (L ⟨#[97, 98, 10, 10, 99, 100]⟩))) = some 3 := (Lines_f ⟨#[97, 98, 10, 10, 99, 100]⟩ (by decide)).trans (by decide)
  have o2 : Ev (fun k => lineindex_Index_Offset.f k ⟨#[97, 98, 10, 10, 99, 100]⟩ (I (st (L ⟨#[97, 98, 10, 10, 99, 100]⟩))) 2 2) (6, 0) := by
    have := Offset_f ⟨#[97, 98, 10, 10, 99, 100]⟩ (by decide) (n := 2) (by decide) 2
    have e : (if (2 : Int) < 0 ∨ (((line (L (⟨#[97, 98, 10, 10, 99, 100]⟩ : ByteArray)) 2).length : Nat) : Int) < 2 then ((0 : Int), (2 : Int)) else ((frm (L (⟨#[97, 98, 10, 10, 99, 100]⟩ : ByteArray)) 2 : Int) + 2, 0)) = (6, 0) := by decide
    rw [e] at this
    exact this
  have o1 : Ev (fun k => lineindex_Index_Offset.f k ⟨#[97, 98, 10, 10, 99, 100]⟩ (I (st (L ⟨#[97, 98, 10, 10, 99, 100]⟩))) 1 1) (0, 2) := by
    have := Offset_f ⟨#[97, 98, 10, 10, 99, 100]⟩ (by decide) (n := 1) (by decide) 1
    have e : (if (1 : Int) < 0 ∨ (((line (L (⟨#[97, 98, 10, 10, 99, 100]⟩ : ByteArray)) 1).length : Nat) : Int) < 1 then ((0 : Int), (2 : Int)) else ((frm (L (⟨#[97, 98, 10, 10, 99, 100]⟩ : ByteArray)) 1 : Int) + 1, 0)) = (0, 2) := by decide
    rw [e] at this
    exact this
  have l0 : lineindex_Index_Lines.f (⟨#[]⟩ : ByteArray) ([] : List Int) = some 1 := by decide +kernel
  refine Ev.bind n1 ?_
  simp only
  generalize (⟨#[97, 98, 10, 10, 99, 100]⟩ : ByteArray) = s at *
  simp only [p2, p3, ll, l0, Option.bind_some]
  refine Ev.bind o2 (Ev.bind o1 ?_)
  exact Ev.congr (fun k => by decide) (Ev.now true)
end Go.Proofs.Ytbdfeckgffmgpaa.Q
