-- Written by a program of this session (wip/tools) over the translation; stand-ins' contracts are proved by hand.
import Derived.Test.YtepjegfhlglajaaQ0
import Derived.Test.YtepjegfhlglajaaQF49
import Derived.Test.YtepjegfhlglajaaQF50
namespace Go.Proofs.Ytepjegfhlglajaa.Q
open Go.RowKit Go.Proofs.YtepjegfhlglajaaW.PrintWords Go.Proofs.YtepjegfhlglajaaW.PrintLast Go.Proofs.YtepjegfhlglajaaW.PrintMore
attribute [local go_sem] max2_int min2_int max_two min_two max_three min_three max_four min_four   -- for this text's walks alone
set_option linter.unusedVariables false
set_option linter.unusedSimpArgs false

/-! ### lexer_one: function 37 -/
def lexer_one.l0 : Nat → ByteArray → Int → Int → Int → Int → Int → List Int → List (List Int) → List Int → Option (Int × Int × ByteArray × Int)
  | 0, _, _, _, _, _, _, _, _, _ => none
  | k + 1, s, i, st, look, kd, sz, cls, nxt, acc => if i + look = (s.size : Int) then (some (kd, i, s.extract (i : Int).toNat ((i + sz) : Int).toNat, look + 1)) else (if 0 ≤ st then (if st < (nxt.length : Int) then (if (bt s (i + look)) < (cls.length : Int) then (if 0 ≤ (rd cls (bt s (i + look))) then (if (rd cls (bt s (i + look))) < ((rd_L3 nxt st).length : Int) then (if (rd (rd_L3 nxt st) (rd cls (bt s (i + look)))) < 0 then (some (kd, i, s.extract (i : Int).toNat ((i + sz) : Int).toNat, look + 1)) else (if (rd (rd_L3 nxt st) (rd cls (bt s (i + look)))) < (acc.length : Int) then (if (rd acc (rd (rd_L3 nxt st) (rd cls (bt s (i + look))))) ≥ 0 then (lexer_one.l0 k s i (rd (rd_L3 nxt st) (rd cls (bt s (i + look)))) (look + 1) (rd acc (rd (rd_L3 nxt st) (rd cls (bt s (i + look))))) (look + 1) cls nxt acc) else (lexer_one.l0 k s i (rd (rd_L3 nxt st) (rd cls (bt s (i + look)))) (look + 1) kd sz cls nxt acc)) else (none))) else (none)) else (none)) else (none)) else (none)) else (none))
def lexer_one.f (k : Nat) (l0_0 : List Int) (l0_1 : List (List Int)) (l0_2 : List Int) (a1 : ByteArray) (a2 : Int) : Option (Int × Int × ByteArray × Int) := if 0 ≤ a2 then (if a2 < (a1.size : Int) then (if (a1.size : Int) ≤ 140737488355328 then (lexer_one.l0 k a1 a2 0 0 (-1) 1 l0_0 l0_1 l0_2) else none) else none) else none
theorem lexer_one.mono_l : ∀ k, (∀ y0 y1 y2 y3 y4 y5 y6 y7 y8, LeO (lexer_one.l0 k y0 y1 y2 y3 y4 y5 y6 y7 y8) (lexer_one.l0 (k + 1) y0 y1 y2 y3 y4 y5 y6 y7 y8))
  | 0 => fun _ _ _ _ _ _ _ _ _ r h => by simp [lexer_one.l0] at h
  | k + 1 => by
    have ih0 := lexer_one.mono_l k
    · intro y0 y1 y2 y3 y4 y5 y6 y7 y8
      unfold lexer_one.l0
      repeat' first
      | (with_reducible exact ih0 _ _ _ _ _ _ _ _ _)
      | (with_reducible exact LeO.refl _)
      | (with_reducible exact LeO.none _)
      | (with_reducible refine LeO.ite ?_ ?_)
theorem lexer_one.mono : ∀ a0 a1 a2 a3 a4 k, LeO (lexer_one.f k a0 a1 a2 a3 a4) (lexer_one.f (k + 1) a0 a1 a2 a3 a4) := by
  intro a0 a1 a2 a3 a4 k
  have ih0 := lexer_one.mono_l k
  unfold lexer_one.f
  repeat' first
      | (with_reducible exact ih0 _ _ _ _ _ _ _ _ _)
      | (with_reducible exact LeO.refl _)
      | (with_reducible exact LeO.none _)
      | (with_reducible refine LeO.ite ?_ ?_)
theorem lexer_one.res {W : World} {g : Nat} (x0 x1 : Int) (x2 : ByteArray) (x3 : Int) (h : W.heap[g]? = some (.cells #[.int .i64 0, .int .i64 0, .string (⟨#[]⟩ : ByteArray), .int .i64 0] 32 (0, 0))) : ((((W.setCell ⟨g, 0, none⟩ (.int .i64 x0)).setCell ⟨g, 1, none⟩ (.int .i64 x1)).setCell ⟨g, 2, none⟩ (.string x2)).setCell ⟨g, 3, none⟩ (.int .i64 x3)).heap[g]? = some (.cells #[.int .i64 x0, .int .i64 x1, .string x2, .int .i64 x3] 32 (0, 0)) :=
  blk_put (cs := #[.int .i64 x0, .int .i64 x1, .string x2, .int .i64 0]) (blk_put (cs := #[.int .i64 x0, .int .i64 x1, .string (⟨#[]⟩ : ByteArray), .int .i64 0]) (blk_put (cs := #[.int .i64 x0, .int .i64 0, .string (⟨#[]⟩ : ByteArray), .int .i64 0]) (blk_put (cs := #[.int .i64 0, .int .i64 0, .string (⟨#[]⟩ : ByteArray), .int .i64 0]) h 0 _ rfl) 1 _ rfl) 2 _ rfl) 3 _ rfl
set_option maxHeartbeats 8000000 in
set_option maxRecDepth 100000 in
theorem lexer_one.calls (k : Nat) (A0_0 : Option Addr) (c0_0 : Nat) (l0_0 : List Int) (A0_1 : Option Addr) (c0_1 : Nat) (l0_1 : List (List Int)) (A0_2 : Option Addr) (c0_2 : Nat) (l0_2 : List Int) (a1 : ByteArray) (a2 : Int) (r1 : Int) (r2 : Int) (r3 : ByteArray) (r4 : Int) (w : World) (hr0_0 : Kd.C (Kd.int .i64) w A0_0 l0_0.length l0_0) (hc0_0 : l0_0.length ≤ c0_0) (hr0_1 : Kd.C (Kd.slice 3 (Kd.int .i64)) w A0_1 l0_1.length l0_1) (hc0_1 : l0_1.length ≤ c0_1) (hr0_2 : Kd.C (Kd.int .i64) w A0_2 l0_2.length l0_2) (hc0_2 : l0_2.length ≤ c0_2) (h : lexer_one.f k l0_0 l0_1 l0_2 a1 a2 = some (r1, r2, r3, r4)) :
    Calls Try.prog 37 #[.agg #[.slice A0_0 l0_0.length c0_0, .slice A0_1 l0_1.length c0_1, .slice A0_2 l0_2.length c0_2], .string a1, .int .i64 a2] w fun e w' => e = .returned (.agg #[.int .i64 r1, .int .i64 r2, .string r3, .int .i64 r4]) ∧ Below w.heap.size w w' := by
  have hu25 := Try.underlying25
  have hu32 := Try.underlying32
  have hu74 := Try.underlying74
  have HR0_0 := Aside0.mk hr0_0
  have HC0_0 := Aside0.mk hc0_0
  clear hr0_0 hc0_0
  have HR0_1 := Aside0.mk hr0_1
  have HC0_1 := Aside0.mk hc0_1
  clear hr0_1 hc0_1
  have HR0_2 := Aside0.mk hr0_2
  have HC0_2 := Aside0.mk hc0_2
  clear hr0_2 hc0_2
  unfold lexer_one.f at h
  by_cases c1 : 0 ≤ a2
  case neg => rw [if_neg c1] at h; exact absurd h (by simp)
  rw [if_pos c1] at h
  by_cases c2 : a2 < (a1.size : Int)
  case neg => rw [if_neg c2] at h; exact absurd h (by simp)
  rw [if_pos c2] at h
  by_cases c3 : (a1.size : Int) ≤ 140737488355328
  case neg => rw [if_neg c3] at h; exact absurd h (by simp)
  rw [if_pos c3] at h
  have H' := Aside0.mk h
  clear h
  have c4 : a2 ≤ a2 + 1 := by omega
  have c5 : a2 + 1 ≤ (a1.size : Int) := by omega
  go_enter Try.func37, Try.ntmps37
  go_wp2
  go_loopg [10] k (fun kq v10 w' => ∃ (st look kd sz : Int), v10 = .int .i64 (a2 + look) ∧ Aside0 (lexer_one.l0 kq a1 a2 st look kd sz l0_0 l0_1 l0_2 = some (r1, r2, r3, r4)) ∧ Aside0 (kq ≤ k) ∧ 0 ≤ look ∧ a2 + look ≤ (a1.size : Int) ∧ Aside0 (w'.heap[w.heap.size + 1 + 1]? = some (.cells #[.int .i64 kd, .int .i64 a2, .string (a1.extract (a2 : Int).toNat ((a2 + sz) : Int).toNat), .int .i64 look] 32 (0, 0))) ∧ Aside0 (w'.heap[w.heap.size + 1]? = some (.cells #[.int .i64 0, .int .i64 0, .string (⟨#[]⟩ : ByteArray), .int .i64 0] 32 (0, 0))) ∧ Aside0 (IsS74 w w' (w.heap.size + 1 + 1 + 1) l0_0 l0_1 l0_2 st) ∧ Aside0 (Below w.heap.size w w'))
  case atStart =>
    refine ⟨0, 0, (-1), 1, by simp, H', ⟨Nat.le_refl _⟩, by omega, by omega, ⟨?_⟩, ⟨?_⟩, ⟨?_⟩, ⟨?_⟩⟩
    · exact blk_alloc (by simpa using blk_new (((w.alloc _).alloc _)) (.cells #[.int .i64 (-1), .int .i64 a2, .string (a1.extract (a2 : Int).toNat ((a2 + 1) : Int).toNat), .int .i64 0] 32)) _
    · exact blk_alloc (blk_alloc (by simpa using blk_new (w.alloc _) (.cells #[.int .i64 0, .int .i64 0, .string (⟨#[]⟩ : ByteArray), .int .i64 0] 32)) _) _
    · have := IsS74.new w (((w.alloc (.cells #[.slice A0_0 l0_0.length c0_0, .slice A0_1 l0_1.length c0_1, .slice A0_2 l0_2.length c0_2] 25)).alloc (.cells #[.int .i64 0, .int .i64 0, .string (⟨#[]⟩ : ByteArray), .int .i64 0] 32)).alloc (.cells #[.int .i64 (-1), .int .i64 a2, .string (a1.extract (a2 : Int).toNat ((a2 + 1) : Int).toNat), .int .i64 0] 32)) A0_0 c0_0 A0_1 c0_1 A0_2 c0_2 l0_0 l0_1 l0_2 0 (below_alloc (below_alloc (below_alloc (Below.refl _ _) _) _) _) HR0_0.out HR0_1.out HR0_2.out
      simpa using this
    · exact below_alloc (below_alloc (below_alloc (below_alloc (Below.refl _ _) _) _) _) _
  case round =>
    clear H'
    obtain ⟨st, look, kd, sz, rfl, HA, HK1, hlo, hhi, BT, BR, HS, HB⟩ := hrel
    cases gk with
    | zero => exact absurd HA.out (by simp [lexer_one.l0])
    | succ k1 =>
      have H := HA.out
      clear HA
      simp only [lexer_one.l0] at H
      by_cases c6 : a2 + look = (a1.size : Int)
      · rw [if_pos c6] at H
        have c6b0 : ((a2 + look) == (a1.size : Int)) = true := beq_iff_eq.mpr c6
        have c6b1 : ((a2 + look) != (a1.size : Int)) = false := bne_eq_false_iff_eq.mpr c6
        clear c6
        simp only [Option.some.injEq, Prod.mk.injEq] at H
        obtain ⟨rfl, rfl, rfl, rfl⟩ := H
        have hc0 := (blk_cell BT.out 0).trans rfl
        have hc1 := (blk_cell BT.out 1).trans rfl
        have hc2 := (blk_cell BT.out 2).trans rfl
        have hc3 := (blk_cell BT.out 3).trans rfl
        have hf3 := blk_frozen BT.out 3
        have hd0 := (blk_cell BR.out 0).trans rfl
        have hd1 := (blk_cell BR.out 1).trans rfl
        have hd2 := (blk_cell BR.out 2).trans rfl
        have hd3 := (blk_cell BR.out 3).trans rfl
        have hg0 := blk_frozen BR.out 0
        have hg1 := blk_frozen BR.out 1
        have hg2 := blk_frozen BR.out 2
        have hg3 := blk_frozen BR.out 3
        go_wp2
        refine bodyPost_ret (results_cell_row rfl _ _ (w.heap.size + 1) 32 #[.int .i64 kd, .int .i64 a2, .string (a1.extract (a2 : Int).toNat ((a2 + sz) : Int).toNat), .int .i64 (look + 1)] (0, 0) _ rfl (lexer_one.res _ _ _ _ (blk_far BR.out (by simp) _)) Try.underlying32 rfl (by kernel_rfl)) rfl ?_
        refine ⟨rfl, ?_⟩
        exact below_set (below_set (below_set (below_set (below_set HB.out (by omega)) (by simp)) (by simp)) (by simp)) (by simp)
      · rw [if_neg c6] at H
        have c6b0 : ((a2 + look) == (a1.size : Int)) = false := beq_eq_false_iff_ne.mpr c6
        have c6b1 : ((a2 + look) != (a1.size : Int)) = true := bne_iff_ne.mpr c6
        have c7 : a2 + look < (a1.size : Int) := by omega
        clear c6
        have c8 : 0 ≤ a2 + look := by omega
        by_cases c9 : 0 ≤ st
        case neg => rw [if_neg c9] at H; exact absurd H (by simp)
        rw [if_pos c9] at H
        by_cases c10 : st < (l0_1.length : Int)
        case neg => rw [if_neg c10] at H; exact absurd H (by simp)
        rw [if_pos c10] at H
        by_cases c11 : bt a1 (a2 + look) < (l0_0.length : Int)
        case neg => rw [if_neg c11] at H; exact absurd H (by simp)
        rw [if_pos c11] at H
        by_cases c12 : 0 ≤ rd l0_0 (bt a1 (a2 + look))
        case neg => rw [if_neg c12] at H; exact absurd H (by simp)
        rw [if_pos c12] at H
        by_cases c13 : rd l0_0 (bt a1 (a2 + look)) < ((rd_L3 l0_1 st).length : Int)
        case neg => rw [if_neg c13] at H; exact absurd H (by simp)
        rw [if_pos c13] at H
        have hb0 : 0 ≤ bt a1 (a2 + look) := (bt_range a1 (a2 + look)).1
        have HST := Aside0.mk (show lexer_scanner_step.f l0_0 l0_1 l0_2 st (bt a1 (a2 + look)) = some (decide ((rd (rd_L3 l0_1 st) (rd l0_0 (bt a1 (a2 + look)))) ≥ 0), rd (rd_L3 l0_1 st) (rd l0_0 (bt a1 (a2 + look)))) by
          unfold lexer_scanner_step.f; rw [if_pos c9, if_pos c10, if_pos hb0, if_pos c11, if_pos c12, if_pos c13])
        clear c9 c10 c11 c12 c13 hb0
        generalize rd (rd_L3 l0_1 st) (rd l0_0 (bt a1 (a2 + look))) = n at H HST
        have hx17 := bt_at a1 (a2 + look)
        have hc0 := (blk_cell BT.out 0).trans rfl
        have hc1 := (blk_cell BT.out 1).trans rfl
        have hc2 := (blk_cell BT.out 2).trans rfl
        have hc3 := (blk_cell BT.out 3).trans rfl
        have hf3 := blk_frozen BT.out 3
        go_wp2_with fail
        refine (lexer_scanner_step.calls (w.heap.size + 1 + 1 + 1) l0_0 l0_1 l0_2 st _ _ _ w _ (HS.out.far (by simp) _) (below_set HB.out (by omega)) HST.out).mono ?_
        rintro e w5 ⟨rfl, hS5, hB5, hK5⟩
        have BT5 := Aside0.mk (hK5.blk (g' := w.heap.size + 1 + 1) (blk_put (cs' := #[.int .i64 kd, .int .i64 a2, .string (a1.extract (a2 : Int).toNat ((a2 + sz) : Int).toNat), .int .i64 (look + 1)]) BT.out 3 (.int .i64 (look + 1)) rfl) (by omega) (by simp))
        have BR5 := Aside0.mk (hK5.blk (g' := w.heap.size + 1) (blk_far BR.out (by simp) (.int .i64 (look + 1))) (by omega) (by simp))
        have HS5 := Aside0.mk hS5
        have HB5 := Aside0.mk hB5
        clear hS5 hB5 hK5 BT BR HS HB HST hc0 hc1 hc2 hc3 hf3
        have hc0 := (blk_cell BT5.out 0).trans rfl
        have hc1 := (blk_cell BT5.out 1).trans rfl
        have hc2 := (blk_cell BT5.out 2).trans rfl
        have hc3 := (blk_cell BT5.out 3).trans rfl
        have hf0 := blk_frozen BT5.out 0
        have hf1 := blk_frozen BT5.out 1
        have hf2 := blk_frozen BT5.out 2
        have hf3 := blk_frozen BT5.out 3
        by_cases c14 : n < 0
        · rw [if_pos c14] at H
          have c14b : decide (n ≥ 0) = false := decide_eq_false (by omega)
          have c14c : decide (0 ≤ n) = false := decide_eq_false (by omega)
          clear c14
          simp only [Option.some.injEq, Prod.mk.injEq] at H
          obtain ⟨rfl, rfl, rfl, rfl⟩ := H
          have hd0 := (blk_cell BR5.out 0).trans rfl
          have hd1 := (blk_cell BR5.out 1).trans rfl
          have hd2 := (blk_cell BR5.out 2).trans rfl
          have hd3 := (blk_cell BR5.out 3).trans rfl
          have hg0 := blk_frozen BR5.out 0
          have hg1 := blk_frozen BR5.out 1
          have hg2 := blk_frozen BR5.out 2
          have hg3 := blk_frozen BR5.out 3
          go_wp2
          refine bodyPost_ret (results_cell_row rfl _ _ (w.heap.size + 1) 32 #[.int .i64 kd, .int .i64 a2, .string (a1.extract (a2 : Int).toNat ((a2 + sz) : Int).toNat), .int .i64 (look + 1)] (0, 0) _ rfl (lexer_one.res _ _ _ _ BR5.out) Try.underlying32 rfl (by kernel_rfl)) rfl ?_
          refine ⟨rfl, ?_⟩
          exact below_set (below_set (below_set (below_set HB5.out (by simp)) (by simp)) (by simp)) (by simp)
        · rw [if_neg c14] at H
          have c14b : decide (n ≥ 0) = true := decide_eq_true (by omega)
          have c14c : decide (0 ≤ n) = true := decide_eq_true (by omega)
          have c15 : 0 ≤ n := by omega
          clear c14
          by_cases c16 : n < (l0_2.length : Int)
          case neg => rw [if_neg c16] at H; exact absurd H (by simp)
          rw [if_pos c16] at H
          have HAC := Aside0.mk (show lexer_scanner_accepted.f l0_0 l0_1 l0_2 n = some (rd l0_2 n, n) by
            unfold lexer_scanner_accepted.f; rw [if_pos c15, if_pos c16])
          clear c15 c16
          generalize rd l0_2 n = m at H HAC
          go_wp2_with fail
          refine (lexer_scanner_accepted.calls (w.heap.size + 1 + 1 + 1) l0_0 l0_1 l0_2 n _ _ w _ HS5.out HB5.out HAC.out).mono ?_
          rintro e w6 ⟨rfl, hS6, hB6, hK6⟩
          have BT6 := Aside0.mk (hK6.blk BT5.out (by omega) (by simp))
          have BR6 := Aside0.mk (hK6.blk BR5.out (by omega) (by simp))
          have HS6 := Aside0.mk hS6
          have HB6 := Aside0.mk hB6
          clear hS6 hB6 hK6 BT5 BR5 HS5 HB5 HAC hc0 hc1 hc2 hc3 hf0 hf1 hf2 hf3
          have hc0 := (blk_cell BT6.out 0).trans rfl
          have hc1 := (blk_cell BT6.out 1).trans rfl
          have hc2 := (blk_cell BT6.out 2).trans rfl
          have hc3 := (blk_cell BT6.out 3).trans rfl
          have hf0 := blk_frozen BT6.out 0
          have hf1 := blk_frozen BT6.out 1
          have hf2 := blk_frozen BT6.out 2
          have hf3 := blk_frozen BT6.out 3
          by_cases c17 : m ≥ 0
          · rw [if_pos c17] at H
            have c17b : decide (0 ≤ m) = true := decide_eq_true c17
            have c17c : decide (m ≥ 0) = true := decide_eq_true c17
            have H' := Aside0.mk H
            clear H c17
            have c18 : a2 ≤ a2 + look + 1 := by omega
            have c19 : a2 + look + 1 ≤ (a1.size : Int) := by omega
            go_wp2
            go_region
            go_wp2
            go_roundg k1
            case measure => have := HK1.out; omega
            case rel => exact ⟨n, look + 1, m, look + 1, by rw [Int.add_assoc], H', ⟨by have := HK1.out; omega⟩, by omega, by omega, ⟨blk_drew (by rw [← Int.add_assoc]; exact blk_put (cs := #[.int .i64 m, .int .i64 a2, .string (a1.extract (a2 : Int).toNat ((a2 + sz) : Int).toNat), .int .i64 (look + 1)]) (blk_put BT6.out 0 (.int .i64 m) rfl) 2 (.string (a1.extract (a2 : Int).toNat ((a2 + look + 1) : Int).toNat)) rfl)⟩, ⟨blk_drew (blk_far (blk_far BR6.out (by simp) _) (by simp) _)⟩, ⟨(((HS6.out.far (by simp) _).far (by simp) _).drew)⟩, ⟨below_drew1 (below_set (below_set HB6.out (by omega)) (by omega))⟩⟩
          · rw [if_neg c17] at H
            have c17b : decide (0 ≤ m) = false := decide_eq_false c17
            have c17c : decide (m ≥ 0) = false := decide_eq_false c17
            have H' := Aside0.mk H
            clear H c17
            go_wp2
            go_roundg k1
            case measure => have := HK1.out; omega
            case rel => exact ⟨n, look + 1, kd, sz, by rw [Int.add_assoc], H', ⟨by have := HK1.out; omega⟩, by omega, by omega, BT6, BR6, HS6, HB6⟩


end Go.Proofs.Ytepjegfhlglajaa.Q
