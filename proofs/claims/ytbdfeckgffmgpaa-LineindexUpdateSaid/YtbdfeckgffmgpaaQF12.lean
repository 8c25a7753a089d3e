-- Written by a program of this session (wip/tools) over the translation; stand-ins' contracts are proved by hand.
import Derived.Test.YtbdfeckgffmgpaaQ0
import Derived.Test.YtbdfeckgffmgpaaQF25
namespace Go.Proofs.Ytbdfeckgffmgpaa.Q
open Go.RowKit Go.Proofs.YtbdfeckgffmgpaaW.PrintWords Go.Proofs.YtbdfeckgffmgpaaW.PrintLast Go.Proofs.YtbdfeckgffmgpaaW.PrintMore
attribute [local go_sem] max2_int min2_int max_two min_two max_three min_three max_four min_four   -- for this text's walks alone
set_option linter.unusedVariables false
set_option linter.unusedSimpArgs false

/-! ### lineindex_Index_Position: function 12 -/
/-- The search for the least index whose start is greater than an offset. -/
def bsr (xs : List Int) (off : Int) : Nat → Int → Int → Option Int
  | 0, _, _ => none
  | k + 1, i, j => if i < j then (if rd xs ((i + j) / 2) > off then bsr xs off k i ((i + j) / 2) else bsr xs off k ((i + j) / 2 + 1) j) else some i
def lineindex_Index_Position.f (a0_0 : ByteArray) (l0_1 : List Int) (a1 : Int) : Option (Int × Int × Int) := if a1 < 0 then (some (0, 0, 2)) else (if a1 > (a0_0.size : Int) then (some (0, 0, 2)) else (if l0_1.length ≤ 1048576 then ((bsr l0_1 a1 (l0_1.length + 1) 0 (l0_1.length : Int)).bind fun n => ((lineindex_Index_span.f a0_0 l0_1 n).bind fun bt112 => (some (n, wrap64 (a1 - bt112.1), 0)))) else none))
set_option maxHeartbeats 4000000 in
set_option maxRecDepth 100000 in
/-- The closure handed to the search. -/
theorem search_fn (a0 : ByteArray) (A : Option Addr) (c : Nat) (xs : List Int) (off i : Int) (p q : Nat) (w : World) (hx : Kd.C (Kd.int .i64) w A xs.length xs) (h0 : 0 ≤ i) (h1 : i < (xs.length : Int))
    (hp : w.heap[p]? = some (.cells #[.string a0, .slice A xs.length c] 25 (0, 0))) (hq : w.heap[q]? = some (.cells #[.int .i64 off] 3 (0, 0))) :
    Calls Try.prog 24 #[.int .i64 i, .pointer (some ⟨p, 0, none⟩), .pointer (some ⟨q, 0, none⟩)] w fun e w' => e = .returned (.bool (decide (rd xs i > off))) ∧ Drawn0 w w' := by
  have hu25 := Try.underlying25
  obtain ⟨ad, e, hx0⟩ := Kd.at_int hx i h0 h1
  cases e
  have hc1 := (blk_cell hp 1).trans rfl
  have hc2 := (blk_cell hq 0).trans rfl
  clear hx hp hq
  go_enter Try.func24, Try.ntmps24
  go_wp2
  go_quiet (fail)
  go_wp2
  go_ret
  exact ⟨by first | rfl | simp, ⟨⟨_, rfl⟩⟩⟩
theorem drewN_blk {w : World} {m g : Nat} {o : Obj} (h : w.heap[g]? = some o) : (w.drewN m).heap[g]? = some o := h
set_option maxHeartbeats 4000000 in
set_option maxRecDepth 100000 in
theorem search_calls (a0 : ByteArray) (A : Option Addr) (c : Nat) (xs : List Int) (off : Int) (p q : Nat) (k : Nat) (r : Int) (w : World) (hx : Kd.C (Kd.int .i64) w A xs.length xs) (hlen : xs.length ≤ 1048576)
    (hp : w.heap[p]? = some (.cells #[.string a0, .slice A xs.length c] 25 (0, 0))) (hq : w.heap[q]? = some (.cells #[.int .i64 off] 3 (0, 0))) (h : bsr xs off k 0 (xs.length : Int) = some r) :
    Calls Try.prog 23 #[.int .i64 (xs.length : Int), .func (Fn.func 24) #[] #[.pointer (some ⟨p, 0, none⟩), .pointer (some ⟨q, 0, none⟩)]] w fun e w' => e = .returned (.int .i64 r) ∧ Drawn0 w w' := by
  have HX := Aside0.mk hx
  have HP := Aside0.mk hp
  have HQ := Aside0.mk hq
  have HL := Aside0.mk hlen
  clear hx hp hq hlen
  have H' := Aside0.mk h
  clear h
  go_enter Try.func23, Try.ntmps23
  go_wp2
  go_loopg [5, 6] k (fun kq v5 v6 w' => ∃ (i j : Int), v5 = .int .i64 i ∧ v6 = .int .i64 j ∧ Aside0 (bsr xs off kq i j = some r) ∧ Aside0 (kq ≤ k) ∧ 0 ≤ i ∧ i ≤ j ∧ j ≤ (xs.length : Int) ∧ Drawn0 w w')
  case atStart => exact ⟨0, (xs.length : Int), rfl, rfl, H', ⟨Nat.le_refl _⟩, by omega, by omega, by omega, Drawn0.refl _⟩
  case round =>
    clear H'
    obtain ⟨i, j, rfl, rfl, HA, HK1, h0, h1, h2, ⟨m1, rfl⟩⟩ := hrel
    cases gk with
    | zero => exact absurd HA.out (by simp [bsr])
    | succ k1 =>
      have H := HA.out
      clear HA
      simp only [bsr] at H
      have hl := HL.out
      have hj : j ≤ 1048576 := by omega
      by_cases c1 : i < j
      · rw [if_pos c1] at H
        have c1b : decide (i < j) = true := decide_eq_true c1
        have d0 : 0 ≤ (i + j) / 2 := by omega
        have d1 : (i + j) / 2 < (xs.length : Int) := by omega
        have d2 : i ≤ (i + j) / 2 := by omega
        have d3 : (i + j) / 2 < j := by omega
        have HF := Aside0.mk (search_fn a0 A c xs off ((i + j) / 2) p q (w.drewN m1) (Kd.C_below HX.out (pw_below_drewN (Below.refl _ _) _)) d0 d1 (drewN_blk HP.out) (drewN_blk HQ.out))
        by_cases c2 : rd xs ((i + j) / 2) > off
        · rw [if_pos c2] at H
          have c2b : decide (rd xs ((i + j) / 2) > off) = true := decide_eq_true c2
          have H' := Aside0.mk H
          clear H c2 c1
          go_wp2_with fail
          refine HF.out.mono ?_
          rintro e w5 ⟨rfl, ⟨m2, rfl⟩⟩
          go_wp2
          go_roundg k1
          case measure => have := HK1.out; omega
          case rel => exact ⟨i, (i + j) / 2, rfl, rfl, H', ⟨by have := HK1.out; omega⟩, by omega, by omega, by omega, ⟨_, rfl⟩⟩
        · rw [if_neg c2] at H
          have c2b : decide (rd xs ((i + j) / 2) > off) = false := decide_eq_false c2
          have H' := Aside0.mk H
          clear H c2 c1
          go_wp2_with fail
          refine HF.out.mono ?_
          rintro e w5 ⟨rfl, ⟨m2, rfl⟩⟩
          go_wp2
          go_roundg k1
          case measure => have := HK1.out; omega
          case rel => exact ⟨(i + j) / 2 + 1, j, rfl, rfl, H', ⟨by have := HK1.out; omega⟩, by omega, by omega, by omega, ⟨_, rfl⟩⟩
      · rw [if_neg c1] at H
        have c1b : decide (i < j) = false := decide_eq_false c1
        obtain rfl := Option.some.inj H
        clear c1
        go_wp2
        go_ret
        exact ⟨by first | rfl | simp, ⟨⟨_, rfl⟩⟩⟩
theorem lineindex_Index_Position.calls (a0_0 : ByteArray) (A0_1 : Option Addr) (c0_1 : Nat) (l0_1 : List Int) (a1 : Int) (r1 : Int) (r2 : Int) (r3 : Int) (w : World) (hr0_1 : Kd.C (Kd.int .i64) w A0_1 l0_1.length l0_1) (hc0_1 : l0_1.length ≤ c0_1) (h : lineindex_Index_Position.f a0_0 l0_1 a1 = some (r1, r2, r3)) :
    Calls Try.prog 12 #[.agg #[.string a0_0, .slice A0_1 l0_1.length c0_1], .int .i64 a1] w fun e w' => e = .returned (.tuple #[.agg #[.int .i64 r1, .int .i64 r2], .int .i64 r3]) ∧ Below w.heap.size w w' := by
  have hu25 := Try.underlying25
  have hu28 := Try.underlying28
  have HR := Aside0.mk hr0_1
  have HC := Aside0.mk hc0_1
  clear hr0_1 hc0_1
  have H := h
  clear h
  unfold lineindex_Index_Position.f at H
  by_cases c3 : a1 < 0
  · rw [if_pos c3] at H
    have c3b0 : decide (a1 < 0) = true := decide_eq_true c3
    clear c3
    simp only [Option.some.injEq, Prod.mk.injEq] at H
    obtain ⟨rfl, rfl, rfl⟩ := H
    go_enter Try.func12, Try.ntmps12
    go_wp2
    refine bodyPost_ret (results_ct rfl _ _ (w.heap.size + 1 + 1) 28 #[.int .i64 0, .int .i64 0] (0, 0) _ rfl (by simpa using blk_new ((w.alloc _).alloc _) (.cells #[.int .i64 0, .int .i64 0] 28)) Try.underlying28 rfl (by kernel_rfl)) rfl ?_
    exact ⟨rfl, below_alloc (below_alloc (below_alloc (Below.refl _ _) _) _) _⟩
  · rw [if_neg c3] at H
    have c3b0 : decide (a1 < 0) = false := decide_eq_false c3
    by_cases c8 : a1 > (a0_0.size : Int)
    · rw [if_pos c8] at H
      have c8b0 : decide ((a0_0.size : Int) < a1) = true := decide_eq_true c8
      clear c8 c3
      simp only [Option.some.injEq, Prod.mk.injEq] at H
      obtain ⟨rfl, rfl, rfl⟩ := H
      go_enter Try.func12, Try.ntmps12
      go_wp2
      refine bodyPost_ret (results_ct rfl _ _ (w.heap.size + 1 + 1) 28 #[.int .i64 0, .int .i64 0] (0, 0) _ rfl (by simpa using blk_new ((w.alloc _).alloc _) (.cells #[.int .i64 0, .int .i64 0] 28)) Try.underlying28 rfl (by kernel_rfl)) rfl ?_
      exact ⟨rfl, below_alloc (below_alloc (below_alloc (Below.refl _ _) _) _) _⟩
    · rw [if_neg c8] at H
      have c8b0 : decide ((a0_0.size : Int) < a1) = false := decide_eq_false c8
      by_cases c9 : l0_1.length ≤ 1048576
      case neg => rw [if_neg c9] at H; exact absurd H (by simp)
      rw [if_pos c9] at H
      replace H := Option.bind_eq_some_iff.mp H
      obtain ⟨n, HB, H⟩ := H
      replace H := Option.bind_eq_some_iff.mp H
      obtain ⟨⟨t1, t2⟩, HS, H⟩ := H
      simp only [Option.some.injEq, Prod.mk.injEq] at H
      obtain ⟨rfl, rfl, rfl⟩ := H
      have HB' := Aside0.mk HB
      have HS' := Aside0.mk HS
      have HL := Aside0.mk c9
      clear HB HS c9 c8 c3
      go_enter Try.func12, Try.ntmps12
      go_wp2_with fail
      have b0 := Aside0.mk (blk_alloc (blk_alloc (blk_new w (.cells #[.string a0_0, .slice A0_1 l0_1.length c0_1] 25)) (.cells #[.int .i64 a1] 3)) (.cells #[.int .i64 0, .int .i64 0] 28))
      have b1 := Aside0.mk (show (((w.alloc (.cells #[.string a0_0, .slice A0_1 l0_1.length c0_1] 25)).alloc (.cells #[.int .i64 a1] 3)).alloc (.cells #[.int .i64 0, .int .i64 0] 28)).heap[w.heap.size + 1]? = some (.cells #[.int .i64 a1] 3 (0, 0)) from blk_alloc (by simpa using blk_new (w.alloc _) (.cells #[.int .i64 a1] 3)) _)
      have b2 := Aside0.mk (show (((w.alloc (.cells #[.string a0_0, .slice A0_1 l0_1.length c0_1] 25)).alloc (.cells #[.int .i64 a1] 3)).alloc (.cells #[.int .i64 0, .int .i64 0] 28)).heap[w.heap.size + 1 + 1]? = some (.cells #[.int .i64 0, .int .i64 0] 28 (0, 0)) from by simpa using blk_new ((w.alloc _).alloc _) (.cells #[.int .i64 0, .int .i64 0] 28))
      have bb := Aside0.mk (show Below w.heap.size w (((w.alloc (.cells #[.string a0_0, .slice A0_1 l0_1.length c0_1] 25)).alloc (.cells #[.int .i64 a1] 3)).alloc (.cells #[.int .i64 0, .int .i64 0] 28)) from below_alloc (below_alloc (below_alloc (Below.refl _ _) _) _) _)
      generalize ((w.alloc (.cells #[.string a0_0, .slice A0_1 l0_1.length c0_1] 25)).alloc (.cells #[.int .i64 a1] 3)).alloc (.cells #[.int .i64 0, .int .i64 0] 28) = W at b0 b1 b2 bb ⊢
      refine (search_calls a0_0 A0_1 c0_1 l0_1 a1 w.heap.size (w.heap.size + 1) _ n W (Kd.C_below HR.out bb.out) HL.out b0.out b1.out HB'.out).mono ?_
      rintro e w5 ⟨rfl, ⟨m, rfl⟩⟩
      have hc0 := (blk_cell b0.out 0).trans rfl
      have hc1 := (blk_cell b0.out 1).trans rfl
      go_wp2_with fail
      refine (lineindex_Index_span.calls a0_0 A0_1 c0_1 l0_1 n t1 t2 _ (Kd.C_below HR.out (pw_below_drewN bb.out _)) HC.out HS'.out).mono ?_
      rintro e w6 ⟨rfl, hb6⟩
      have B0 := Aside0.mk (blk_below (drewN_blk (m := m) b0.out) hb6)
      have B1 := Aside0.mk (blk_below (drewN_blk (m := m) b1.out) hb6)
      have B2 := Aside0.mk (blk_below (drewN_blk (m := m) b2.out) hb6)
      have BB := Aside0.mk (below_step (pw_below_drewN bb.out m) hb6)
      clear hb6 hc0 hc1
      have hd0 := (blk_cell B1.out 0).trans rfl
      have hd1 := (blk_cell B2.out 0).trans rfl
      have hd2 := (blk_cell B2.out 1).trans rfl
      have hf1 := blk_frozen B2.out 0
      have hf2 := blk_frozen B2.out 1
      go_wp2
      refine bodyPost_ret (results_ct rfl _ _ (w.heap.size + 1 + 1) 28 #[.int .i64 n, .int .i64 (wrap64 (a1 - t1))] (0, 0) _ rfl (blk_put (cs := #[.int .i64 n, .int .i64 0]) (blk_put (cs := #[.int .i64 0, .int .i64 0]) B2.out 0 _ rfl) 1 _ rfl) Try.underlying28 rfl (by kernel_rfl)) rfl ?_
      exact ⟨rfl, below_set (below_set BB.out (by omega)) (by omega)⟩


end Go.Proofs.Ytbdfeckgffmgpaa.Q
