/- What the two scanners, the two lexers, the concatenations, the comparison and the check of an automaton compute, told by the mathematics of maximal munch. No condition. -/
import Derived.Test.YtepjegfhlglajaaMQMath
import Derived.Test.YtepjegfhlglajaaMQF37
import Derived.Test.YtepjegfhlglajaaMQF38
namespace Go.Proofs.Ytepjegfhlglajaa.Q
set_option linter.unusedVariables false
open Go.RowKit Go.Proofs.YtepjegfhlglajaaW.PrintWords Go.Proofs.YtepjegfhlglajaaW.PrintLast Go.Proofs.YtepjegfhlglajaaW.PrintMore
theorem wrap_id {x : Int} (h0 : -9223372036854775808 ≤ x) (h1 : x ≤ 9223372036854775807) : wrap64 x = x := by unfold wrap64; omega
theorem toNat_cast (i : Nat) : ((i : Int)).toNat = i := Int.toNat_natCast i
theorem toNat_cast2 (i j : Nat) : ((i : Int) + (j : Int)).toNat = i + j := by omega
theorem b_lt (b : UInt8) : (0 : Int) ≤ (b.toNat : Int) ∧ (b.toNat : Int) < 256 := by have := b.toNat_lt; omega
section
variable {c : List Int} {n : List (List Int)} {a : List Int}
theorem nx_ok (hv : VD c n a) {st : Int} (h0 : 0 ≤ st) (h1 : st < (n.length : Int)) (b : UInt8) :
    (b.toNat : Int) < (c.length : Int) ∧ 0 ≤ rd c (b.toNat : Int) ∧ rd c (b.toNat : Int) < ((rd_L3 n st).length : Int) ∧ -1 ≤ nx c n st b ∧ nx c n st b < (n.length : Int) := by
  obtain ⟨v0, v1, v2, v3, v4⟩ := hv
  obtain ⟨b0, b1⟩ := b_lt b
  obtain ⟨c0, c1⟩ := v3 _ b0 b1
  obtain ⟨s0, s1, s2⟩ := v4 st h0 h1
  obtain ⟨t0, t1⟩ := s2 _ c0 c1
  refine ⟨by omega, c0, by omega, t0, t1⟩
theorem one_l0 (hv : VD c n a) (s : ByteArray) (i : Nat) : ∀ (r : List UInt8) (k : Nat) (st : Int) (look : Nat) (kd : Int) (sz : Nat), (L s).drop (i + look) = r → i + look ≤ s.size → 0 ≤ st → st < (n.length : Int) → r.length < k →
    lexer_one.l0 k s i st look kd sz c n a = some ((scan c n a r st look kd sz).1, (i : Int), s.extract i (i + (scan c n a r st look kd sz).2.1), ((scan c n a r st look kd sz).2.2 : Int)) := by
  intro r
  induction r with
  | nil =>
    intro k st look kd sz hr hi h0 h1 hk
    obtain ⟨k, rfl⟩ : ∃ m, k = m + 1 := ⟨k - 1, by omega⟩
    have he : (i : Int) + look = (s.size : Int) := by
      have := congrArg List.length hr
      rw [List.length_drop, L_length, List.length_nil] at this
      omega
    simp only [lexer_one.l0, scan]
    rw [if_pos he, toNat_cast, toNat_cast2]
    simp
  | cons b r ih =>
    intro k st look kd sz hr hi h0 h1 hk
    obtain ⟨k, rfl⟩ : ∃ m, k = m + 1 := ⟨k - 1, by omega⟩
    have hlt : i + look < s.size := by
      have := congrArg List.length hr
      rw [List.length_drop, L_length, List.length_cons] at this
      omega
    have hb : bt s ((i : Int) + look) = (b.toNat : Int) := by
      rw [← bt_drop hr]; norm_cast
    have hr' : (L s).drop (i + (look + 1)) = r := by
      rw [← Nat.add_assoc, ← List.drop_drop, hr]; rfl
    obtain ⟨n0, n1, n2, n3, n4⟩ := nx_ok hv h0 h1 b
    simp only [lexer_one.l0, scan]
    rw [if_neg (by omega), if_pos h0, if_pos h1, hb, if_pos n0, if_pos n1, if_pos n2]
    simp only [List.length_cons] at hk
    change (if nx c n st b < 0 then _ else _) = _
    by_cases hn : nx c n st b < 0
    · rw [if_pos hn, if_pos hn, toNat_cast, toNat_cast2]
      simp
    · rw [if_neg hn, if_neg hn]
      change (if nx c n st b < (a.length : Int) then _ else _) = _
      rw [if_pos (by rw [hv.2.2.1]; exact n4)]
      change (if rd a (nx c n st b) ≥ 0 then lexer_one.l0 k s i (nx c n st b) ((look : Int) + 1) (rd a (nx c n st b)) ((look : Int) + 1) c n a else lexer_one.l0 k s i (nx c n st b) ((look : Int) + 1) kd sz c n a) = _
      by_cases ha : 0 ≤ rd a (nx c n st b)
      · rw [if_pos ha, if_pos ha]
        have := ih k (nx c n st b) (look + 1) (rd a (nx c n st b)) (look + 1) hr' (by omega) (by omega) n4 (by omega)
        rw [← this]; norm_cast
      · rw [if_neg ha, if_neg ha]
        have := ih k (nx c n st b) (look + 1) kd sz hr' (by omega) (by omega) n4 (by omega)
        rw [← this]; norm_cast
theorem at_l0 (hv : VD c n a) (s : ByteArray) (i : Nat) (hs : s.size ≤ 140737488355328) : ∀ (r : List UInt8) (k : Nat) (st : Int) (look : Nat) (kd : Int) (sz : Nat), (L s).drop (i + look) = r → i + look ≤ s.size → 0 ≤ st → st < (n.length : Int) → r.length < k →
    1 ≤ sz → sz ≤ look + 1 → i + sz ≤ s.size →
    emendateref12_At.l0 k s i st look kd sz c n a = some ((scan c n a r st look kd sz).1, (i : Int), s.extract i (i + (scan c n a r st look kd sz).2.1), ((scan c n a r st look kd sz).2.2 : Int)) := by
  intro r
  induction r with
  | nil =>
    intro k st look kd sz hr hi h0 h1 hk hz1 hz2 hz3
    obtain ⟨k, rfl⟩ : ∃ m, k = m + 1 := ⟨k - 1, by omega⟩
    have he : (i : Int) + look = (s.size : Int) := by
      have := congrArg List.length hr
      rw [List.length_drop, L_length, List.length_nil] at this
      omega
    simp only [emendateref12_At.l0, scan]
    rw [wrap_id (x := (i : Int) + look) (by omega) (by omega), if_pos he, wrap_id (x := (i : Int) + sz) (by omega) (by omega), wrap_id (x := (look : Int) + 1) (by omega) (by omega), if_pos (by omega), if_pos (by omega), if_pos (by omega), toNat_cast, toNat_cast2]
    simp
  | cons b r ih =>
    intro k st look kd sz hr hi h0 h1 hk hz1 hz2 hz3
    obtain ⟨k, rfl⟩ : ∃ m, k = m + 1 := ⟨k - 1, by omega⟩
    have hlt : i + look < s.size := by
      have := congrArg List.length hr
      rw [List.length_drop, L_length, List.length_cons] at this
      omega
    have hb : bt s ((i : Int) + look) = (b.toNat : Int) := by
      rw [← bt_drop hr]; norm_cast
    have hr' : (L s).drop (i + (look + 1)) = r := by
      rw [← Nat.add_assoc, ← List.drop_drop, hr]; rfl
    obtain ⟨n0, n1, n2, n3, n4⟩ := nx_ok hv h0 h1 b
    obtain ⟨b0, b1⟩ := b_lt b
    simp only [emendateref12_At.l0, scan]
    rw [wrap_id (x := (i : Int) + look) (by omega) (by omega), if_neg (by omega), if_pos h0, if_pos h1, if_pos (by omega), if_pos (by omega), hb, if_pos b0, if_pos n0, if_pos n1, if_pos n2]
    simp only [List.length_cons] at hk
    change (if nx c n st b < 0 then _ else _) = _
    by_cases hn : nx c n st b < 0
    · rw [if_pos hn, if_pos hn, wrap_id (x := (i : Int) + sz) (by omega) (by omega), wrap_id (x := (look : Int) + 1) (by omega) (by omega), if_pos (by omega), if_pos (by omega), if_pos (by omega), toNat_cast, toNat_cast2]
      simp
    · rw [if_neg hn, if_neg hn]
      change (if 0 ≤ nx c n st b then (if nx c n st b < (a.length : Int) then _ else _) else _) = _
      rw [if_pos (by omega), if_pos (by rw [hv.2.2.1]; exact n4)]
      change (if rd a (nx c n st b) ≥ 0 then emendateref12_At.l0 k s i (nx c n st b) (wrap64 ((look : Int) + 1)) (rd a (nx c n st b)) (wrap64 ((look : Int) + 1)) c n a else emendateref12_At.l0 k s i (nx c n st b) (wrap64 ((look : Int) + 1)) kd sz c n a) = _
      rw [wrap_id (x := (look : Int) + 1) (by omega) (by omega)]
      by_cases ha : 0 ≤ rd a (nx c n st b)
      · rw [if_pos ha, if_pos ha]
        have := ih k (nx c n st b) (look + 1) (rd a (nx c n st b)) (look + 1) hr' (by omega) (by omega) n4 (by omega) (by omega) (by omega) (by omega)
        rw [show (((look + 1 : Nat)) : Int) = (look : Int) + 1 from by omega] at this; exact this
      · rw [if_neg ha, if_neg ha]
        have := ih k (nx c n st b) (look + 1) kd sz hr' (by omega) (by omega) n4 (by omega) hz1 (by omega) hz3
        rw [show (((look + 1 : Nat)) : Int) = (look : Int) + 1 from by omega] at this; exact this
/-- A token as the functions return it. -/
def Tk.v (x : Tk) : Int × Int × ByteArray × Int := (x.k, x.at_, S x.tx, x.lk)
theorem tk_v (s : ByteArray) (i : Nat) : (tk c n a ((L s).drop i) i).v = ((scan c n a ((L s).drop i) 0 0 (-1) 1).1, (i : Int), s.extract i (i + (scan c n a ((L s).drop i) 0 0 (-1) 1).2.1), ((scan c n a ((L s).drop i) 0 0 (-1) 1).2.2 : Int)) := by
  rw [extract_S]
  simp [Tk.v, tk]
theorem one_ev (hv : VD c n a) (s : ByteArray) (i : Nat) (hi : i < s.size) (hs : s.size ≤ 140737488355328) : Ev (fun k => lexer_one.f k c n a s i) (tk c n a ((L s).drop i) i).v := by
  refine ⟨s.size + 1, fun k hk => ?_⟩
  rw [tk_v]
  have := one_l0 hv s i ((L s).drop i) k 0 0 (-1) 1 (by simp) (by omega) (by omega) (by have := hv.2.1; omega) (by rw [List.length_drop, L_length]; omega)
  simp only [lexer_one.f]
  rw [if_pos (by omega), if_pos (by omega), if_pos (by omega)]
  exact this
theorem at_ev (hv : VD c n a) (s : ByteArray) (i : Nat) (hi : i < s.size) (hs : s.size ≤ 140737488355328) : Ev (fun k => emendateref12_At.f k c n a s i) (tk c n a ((L s).drop i) i).v := by
  refine ⟨s.size + 1, fun k hk => ?_⟩
  rw [tk_v]
  exact at_l0 hv s i hs ((L s).drop i) k 0 0 (-1) 1 (by simp) (by omega) (by omega) (by have := hv.2.1; omega) (by rw [List.length_drop, L_length]; omega) (by omega) (by omega) (by omega)
end
end Go.Proofs.Ytepjegfhlglajaa.Q
