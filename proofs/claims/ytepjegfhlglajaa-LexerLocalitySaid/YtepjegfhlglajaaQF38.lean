-- Written by a program of this session (wip/tools) over the translation; stand-ins' contracts are proved by hand.
import Derived.Test.YtepjegfhlglajaaQ0
namespace Go.Proofs.Ytepjegfhlglajaa.Q
open Go.RowKit Go.Proofs.YtepjegfhlglajaaW.PrintWords Go.Proofs.YtepjegfhlglajaaW.PrintLast Go.Proofs.YtepjegfhlglajaaW.PrintMore
attribute [local go_sem] max2_int min2_int max_two min_two max_three min_three max_four min_four   -- for this text's walks alone
set_option linter.unusedVariables false
set_option linter.unusedSimpArgs false

/-! ### emendateref12_At: function 38 -/
def emendateref12_At.l0 : Nat → ByteArray → Int → Int → Int → Int → Int → List Int → List (List Int) → List Int → Option (Int × Int × ByteArray × Int)
  | 0, _, _, _, _, _, _, _, _, _ => none
  | k + 1, x1, x2, x7, x8, x9, x10, x196000, x196001, x196002 => if (wrap64 (x2 + x8)) = (x1.size : Int) then (if 0 ≤ x2 then (if x2 ≤ (wrap64 (x2 + x10)) then (if (wrap64 (x2 + x10)) ≤ (x1.size : Int) then (some (x9, x2, x1.extract (x2 : Int).toNat ((wrap64 (x2 + x10)) : Int).toNat, wrap64 (x8 + 1))) else (none)) else (none)) else (none)) else (if 0 ≤ x7 then (if x7 < (x196001.length : Int) then (if 0 ≤ (wrap64 (x2 + x8)) then (if (wrap64 (x2 + x8)) < (x1.size : Int) then (if 0 ≤ (bt x1 (wrap64 (x2 + x8))) then (if (bt x1 (wrap64 (x2 + x8))) < (x196000.length : Int) then (if 0 ≤ (rd x196000 (bt x1 (wrap64 (x2 + x8)))) then (if (rd x196000 (bt x1 (wrap64 (x2 + x8)))) < ((rd_L3 x196001 x7).length : Int) then (if (rd (rd_L3 x196001 x7) (rd x196000 (bt x1 (wrap64 (x2 + x8))))) < 0 then (if 0 ≤ x2 then (if x2 ≤ (wrap64 (x2 + x10)) then (if (wrap64 (x2 + x10)) ≤ (x1.size : Int) then (some (x9, x2, x1.extract (x2 : Int).toNat ((wrap64 (x2 + x10)) : Int).toNat, wrap64 (x8 + 1))) else (none)) else (none)) else (none)) else (if 0 ≤ (rd (rd_L3 x196001 x7) (rd x196000 (bt x1 (wrap64 (x2 + x8))))) then (if (rd (rd_L3 x196001 x7) (rd x196000 (bt x1 (wrap64 (x2 + x8))))) < (x196002.length : Int) then (if (rd x196002 (rd (rd_L3 x196001 x7) (rd x196000 (bt x1 (wrap64 (x2 + x8)))))) ≥ 0 then (emendateref12_At.l0 k x1 x2 (rd (rd_L3 x196001 x7) (rd x196000 (bt x1 (wrap64 (x2 + x8))))) (wrap64 (x8 + 1)) (rd x196002 (rd (rd_L3 x196001 x7) (rd x196000 (bt x1 (wrap64 (x2 + x8)))))) (wrap64 (x8 + 1)) x196000 x196001 x196002) else (emendateref12_At.l0 k x1 x2 (rd (rd_L3 x196001 x7) (rd x196000 (bt x1 (wrap64 (x2 + x8))))) (wrap64 (x8 + 1)) x9 x10 x196000 x196001 x196002)) else (none)) else (none))) else (none)) else (none)) else (none)) else (none)) else (none)) else (none)) else (none)) else (none))
def emendateref12_At.f (k : Nat) (l0_0 : List Int) (l0_1 : List (List Int)) (l0_2 : List Int) (a1 : ByteArray) (a2 : Int) : Option (Int × Int × ByteArray × Int) := emendateref12_At.l0 k a1 a2 0 0 (-1) 1 l0_0 l0_1 l0_2
theorem emendateref12_At.mono_l : ∀ k, (∀ y0 y1 y2 y3 y4 y5 y6 y7 y8, LeO (emendateref12_At.l0 k y0 y1 y2 y3 y4 y5 y6 y7 y8) (emendateref12_At.l0 (k + 1) y0 y1 y2 y3 y4 y5 y6 y7 y8))
  | 0 => fun _ _ _ _ _ _ _ _ _ r h => by simp [emendateref12_At.l0] at h
  | k + 1 => by
    have ih0 := emendateref12_At.mono_l k
    · intro y0 y1 y2 y3 y4 y5 y6 y7 y8
      unfold emendateref12_At.l0
      repeat' first
      | (with_reducible exact ih0 _ _ _ _ _ _ _ _ _)
      | (with_reducible exact LeO.refl _)
      | (with_reducible exact LeO.none _)
      | (with_reducible refine LeO.ite ?_ ?_)
      | (with_reducible refine LeO.bind ?_ (fun _ => ?_))
      | exact ih0 _ _ _ _ _ _ _ _ _
      | exact LeO.none _
      | refine LeO.ite ?_ ?_
      | refine LeO.bind ?_ (fun _ => ?_)
theorem emendateref12_At.mono : ∀ a0 a1 a2 a3 a4 k, LeO (emendateref12_At.f k a0 a1 a2 a3 a4) (emendateref12_At.f (k + 1) a0 a1 a2 a3 a4) := by
  intro a0 a1 a2 a3 a4 k
  have ih0 := emendateref12_At.mono_l k
  unfold emendateref12_At.f
  repeat' first
      | (with_reducible exact ih0 _ _ _ _ _ _ _ _ _)
      | (with_reducible exact LeO.refl _)
      | (with_reducible exact LeO.none _)
      | (with_reducible refine LeO.ite ?_ ?_)
      | (with_reducible refine LeO.bind ?_ (fun _ => ?_))
      | exact ih0 _ _ _ _ _ _ _ _ _
      | exact LeO.none _
      | refine LeO.ite ?_ ?_
      | refine LeO.bind ?_ (fun _ => ?_)
set_option maxHeartbeats 8000000 in
set_option maxRecDepth 100000 in
theorem emendateref12_At.calls (k : Nat) (A0_0 : Option Addr) (c0_0 : Nat) (l0_0 : List Int) (A0_1 : Option Addr) (c0_1 : Nat) (l0_1 : List (List Int)) (A0_2 : Option Addr) (c0_2 : Nat) (l0_2 : List Int) (a1 : ByteArray) (a2 : Int) (r1 : Int) (r2 : Int) (r3 : ByteArray) (r4 : Int) (w : World) (hr0_0 : Kd.C (Kd.int .i64) w A0_0 l0_0.length l0_0) (hc0_0 : l0_0.length ≤ c0_0) (hr0_1 : Kd.C (Kd.slice 3 (Kd.int .i64)) w A0_1 l0_1.length l0_1) (hc0_1 : l0_1.length ≤ c0_1) (hr0_2 : Kd.C (Kd.int .i64) w A0_2 l0_2.length l0_2) (hc0_2 : l0_2.length ≤ c0_2) (h : emendateref12_At.f k l0_0 l0_1 l0_2 a1 a2 = some (r1, r2, r3, r4)) :
    Calls Try.prog 38 #[.agg #[.slice A0_0 l0_0.length c0_0, .slice A0_1 l0_1.length c0_1, .slice A0_2 l0_2.length c0_2], .string a1, .int .i64 a2] w fun e w' => e = .returned (.agg #[.int .i64 r1, .int .i64 r2, .string r3, .int .i64 r4]) ∧ Below w.heap.size w w' := by
  have hu25 := Try.underlying25
  have hu32 := Try.underlying32
  have HR0_0 := Aside0.mk hr0_0
  have HC0_0 := Aside0.mk hc0_0
  clear hr0_0 hc0_0
  have HR0_1 := Aside0.mk hr0_1
  have HC0_1 := Aside0.mk hc0_1
  clear hr0_1 hc0_1
  have HR0_2 := Aside0.mk hr0_2
  have HC0_2 := Aside0.mk hc0_2
  clear hr0_2 hc0_2
  have HB := Aside0.mk (Below.refl w.heap.size w)
  have H : (emendateref12_At.l0 k a1 a2 0 0 (-1) 1 l0_0 l0_1 l0_2) = some (r1, r2, r3, r4) := h
  clear h
  have H' := Aside0.mk H
  clear H
  go_enter Try.func38, Try.ntmps38
  go_wp2_with (first | ((with_reducible refine gate_dst (N := 3) rfl ?_); refine box_event ?hg (N := 3) ?hd (cs := #[.slice A0_0 l0_0.length c0_0, .slice A0_1 l0_1.length c0_1, .slice A0_2 l0_2.length c0_2]) (t := 25) ?hr ?_; (case hd => rfl); (case hg => rfl); (case hr => first | (go_simp; done) | (go_simp; rfl)); intro gb195 hg w4 hbox hb; have n0_ := Aside0.mk (below_step (by repeat (first | (with_reducible first | exact HB.out | apply below_alloc | apply pw_below_drewN | apply below_drew1) | exact HB.out)) hb); have n1_ := Aside0.mk (hbox); have n2_ := Aside0.mk ((by rw [hg]; exact (below_size (by repeat (first | (with_reducible first | exact HB.out | apply below_alloc | apply pw_below_drewN | apply below_drew1) | exact HB.out))) : w.heap.size ≤ gb195)); have n3_ := Aside0.mk ((by rw [hg]; exact (below_size (by repeat (first | (with_reducible first | exact HB.out | apply below_alloc | apply pw_below_drewN | apply below_drew1) | exact HB.out))) : w.heap.size ≤ gb195)); clear HB; have HB := n0_; have BK195 := n1_; have GW195 := n2_; have GE195 := n3_; clear n0_ n1_ n2_ n3_; clear hb hbox hg) | ((with_reducible refine gate_dst (N := 6) rfl ?_); refine box_event ?hg (N := 6) ?hd (cs := #[.int .i64 0, .int .i64 0, .string (⟨#[]⟩ : ByteArray), .int .i64 0]) (t := 32) ?hr ?_; (case hd => rfl); (case hg => rfl); (case hr => first | (go_simp; done) | (go_simp; rfl)); intro gb196 hg w5 hbox hb; have n0_ := Aside0.mk (blk_below (g := gb195) (o := .cells #[.slice A0_0 l0_0.length c0_0, .slice A0_1 l0_1.length c0_1, .slice A0_2 l0_2.length c0_2] 25 (0, 0)) (by (with_reducible repeat (first | refine blk_drewN ?_ _ | refine blk_drew ?_ | refine blk_alloc ?_ _)); exact BK195.out) hb); have n1_ := Aside0.mk (below_step (by repeat (first | (with_reducible first | exact HB.out | apply below_alloc | apply pw_below_drewN | apply below_drew1 | refine below_set ?_ GE195.out) | exact HB.out)) hb); have n2_ := Aside0.mk (hbox); have n3_ := Aside0.mk ((by rw [hg]; exact (below_size (by repeat (first | (with_reducible first | exact HB.out | apply below_alloc | apply pw_below_drewN | apply below_drew1 | refine below_set ?_ GE195.out) | exact HB.out))) : w.heap.size ≤ gb196)); have n4_ := Aside0.mk ((by rw [hg]; exact (below_size (by repeat (first | (with_reducible first | exact HB.out | apply below_alloc | apply pw_below_drewN | apply below_drew1 | refine below_set ?_ GE195.out) | exact HB.out))) : w.heap.size ≤ gb196)); have n5_ := Aside0.mk ((by rw [hg]; exact Nat.ne_of_lt (blk_lt (g := gb195) (o := .cells #[.slice A0_0 l0_0.length c0_0, .slice A0_1 l0_1.length c0_1, .slice A0_2 l0_2.length c0_2] 25 (0, 0)) (by (with_reducible repeat (first | refine blk_drewN ?_ _ | refine blk_drew ?_ | refine blk_alloc ?_ _)); exact BK195.out)) : gb195 ≠ gb196)); have n6_ := Aside0.mk ((by rw [hg]; exact Nat.ne_of_gt (blk_lt (g := gb195) (o := .cells #[.slice A0_0 l0_0.length c0_0, .slice A0_1 l0_1.length c0_1, .slice A0_2 l0_2.length c0_2] 25 (0, 0)) (by (with_reducible repeat (first | refine blk_drewN ?_ _ | refine blk_drew ?_ | refine blk_alloc ?_ _)); exact BK195.out)) : gb196 ≠ gb195)); clear BK195; clear HB; have BK195 := n0_; have HB := n1_; have BK196 := n2_; have GW196 := n3_; have GE196 := n4_; have NB195_196 := n5_; have NB196_195 := n6_; clear n0_ n1_ n2_ n3_ n4_ n5_ n6_; clear hb hbox hg))
  repeat (go_quiet (first | ((with_reducible refine gate_dst (N := 3) rfl ?_); refine box_event ?hg (N := 3) ?hd (cs := #[.slice A0_0 l0_0.length c0_0, .slice A0_1 l0_1.length c0_1, .slice A0_2 l0_2.length c0_2]) (t := 25) ?hr ?_; (case hd => rfl); (case hg => rfl); (case hr => first | (go_simp; done) | (go_simp; rfl)); intro gb195 hg w4 hbox hb; have n0_ := Aside0.mk (below_step (by repeat (first | (with_reducible first | exact HB.out | apply below_alloc | apply pw_below_drewN | apply below_drew1) | exact HB.out)) hb); have n1_ := Aside0.mk (hbox); have n2_ := Aside0.mk ((by rw [hg]; exact (below_size (by repeat (first | (with_reducible first | exact HB.out | apply below_alloc | apply pw_below_drewN | apply below_drew1) | exact HB.out))) : w.heap.size ≤ gb195)); have n3_ := Aside0.mk ((by rw [hg]; exact (below_size (by repeat (first | (with_reducible first | exact HB.out | apply below_alloc | apply pw_below_drewN | apply below_drew1) | exact HB.out))) : w.heap.size ≤ gb195)); clear HB; have HB := n0_; have BK195 := n1_; have GW195 := n2_; have GE195 := n3_; clear n0_ n1_ n2_ n3_; clear hb hbox hg) | ((with_reducible refine gate_dst (N := 6) rfl ?_); refine box_event ?hg (N := 6) ?hd (cs := #[.int .i64 0, .int .i64 0, .string (⟨#[]⟩ : ByteArray), .int .i64 0]) (t := 32) ?hr ?_; (case hd => rfl); (case hg => rfl); (case hr => first | (go_simp; done) | (go_simp; rfl)); intro gb196 hg w5 hbox hb; have n0_ := Aside0.mk (blk_below (g := gb195) (o := .cells #[.slice A0_0 l0_0.length c0_0, .slice A0_1 l0_1.length c0_1, .slice A0_2 l0_2.length c0_2] 25 (0, 0)) (by (with_reducible repeat (first | refine blk_drewN ?_ _ | refine blk_drew ?_ | refine blk_alloc ?_ _)); exact BK195.out) hb); have n1_ := Aside0.mk (below_step (by repeat (first | (with_reducible first | exact HB.out | apply below_alloc | apply pw_below_drewN | apply below_drew1 | refine below_set ?_ GE195.out) | exact HB.out)) hb); have n2_ := Aside0.mk (hbox); have n3_ := Aside0.mk ((by rw [hg]; exact (below_size (by repeat (first | (with_reducible first | exact HB.out | apply below_alloc | apply pw_below_drewN | apply below_drew1 | refine below_set ?_ GE195.out) | exact HB.out))) : w.heap.size ≤ gb196)); have n4_ := Aside0.mk ((by rw [hg]; exact (below_size (by repeat (first | (with_reducible first | exact HB.out | apply below_alloc | apply pw_below_drewN | apply below_drew1 | refine below_set ?_ GE195.out) | exact HB.out))) : w.heap.size ≤ gb196)); have n5_ := Aside0.mk ((by rw [hg]; exact Nat.ne_of_lt (blk_lt (g := gb195) (o := .cells #[.slice A0_0 l0_0.length c0_0, .slice A0_1 l0_1.length c0_1, .slice A0_2 l0_2.length c0_2] 25 (0, 0)) (by (with_reducible repeat (first | refine blk_drewN ?_ _ | refine blk_drew ?_ | refine blk_alloc ?_ _)); exact BK195.out)) : gb195 ≠ gb196)); have n6_ := Aside0.mk ((by rw [hg]; exact Nat.ne_of_gt (blk_lt (g := gb195) (o := .cells #[.slice A0_0 l0_0.length c0_0, .slice A0_1 l0_1.length c0_1, .slice A0_2 l0_2.length c0_2] 25 (0, 0)) (by (with_reducible repeat (first | refine blk_drewN ?_ _ | refine blk_drew ?_ | refine blk_alloc ?_ _)); exact BK195.out)) : gb196 ≠ gb195)); clear BK195; clear HB; have BK195 := n0_; have HB := n1_; have BK196 := n2_; have GW196 := n3_; have GE196 := n4_; have NB195_196 := n5_; have NB196_195 := n6_; clear n0_ n1_ n2_ n3_ n4_ n5_ n6_; clear hb hbox hg)); try go_wp2_with (first | ((with_reducible refine gate_dst (N := 3) rfl ?_); refine box_event ?hg (N := 3) ?hd (cs := #[.slice A0_0 l0_0.length c0_0, .slice A0_1 l0_1.length c0_1, .slice A0_2 l0_2.length c0_2]) (t := 25) ?hr ?_; (case hd => rfl); (case hg => rfl); (case hr => first | (go_simp; done) | (go_simp; rfl)); intro gb195 hg w4 hbox hb; have n0_ := Aside0.mk (below_step (by repeat (first | (with_reducible first | exact HB.out | apply below_alloc | apply pw_below_drewN | apply below_drew1) | exact HB.out)) hb); have n1_ := Aside0.mk (hbox); have n2_ := Aside0.mk ((by rw [hg]; exact (below_size (by repeat (first | (with_reducible first | exact HB.out | apply below_alloc | apply pw_below_drewN | apply below_drew1) | exact HB.out))) : w.heap.size ≤ gb195)); have n3_ := Aside0.mk ((by rw [hg]; exact (below_size (by repeat (first | (with_reducible first | exact HB.out | apply below_alloc | apply pw_below_drewN | apply below_drew1) | exact HB.out))) : w.heap.size ≤ gb195)); clear HB; have HB := n0_; have BK195 := n1_; have GW195 := n2_; have GE195 := n3_; clear n0_ n1_ n2_ n3_; clear hb hbox hg) | ((with_reducible refine gate_dst (N := 6) rfl ?_); refine box_event ?hg (N := 6) ?hd (cs := #[.int .i64 0, .int .i64 0, .string (⟨#[]⟩ : ByteArray), .int .i64 0]) (t := 32) ?hr ?_; (case hd => rfl); (case hg => rfl); (case hr => first | (go_simp; done) | (go_simp; rfl)); intro gb196 hg w5 hbox hb; have n0_ := Aside0.mk (blk_below (g := gb195) (o := .cells #[.slice A0_0 l0_0.length c0_0, .slice A0_1 l0_1.length c0_1, .slice A0_2 l0_2.length c0_2] 25 (0, 0)) (by (with_reducible repeat (first | refine blk_drewN ?_ _ | refine blk_drew ?_ | refine blk_alloc ?_ _)); exact BK195.out) hb); have n1_ := Aside0.mk (below_step (by repeat (first | (with_reducible first | exact HB.out | apply below_alloc | apply pw_below_drewN | apply below_drew1 | refine below_set ?_ GE195.out) | exact HB.out)) hb); have n2_ := Aside0.mk (hbox); have n3_ := Aside0.mk ((by rw [hg]; exact (below_size (by repeat (first | (with_reducible first | exact HB.out | apply below_alloc | apply pw_below_drewN | apply below_drew1 | refine below_set ?_ GE195.out) | exact HB.out))) : w.heap.size ≤ gb196)); have n4_ := Aside0.mk ((by rw [hg]; exact (below_size (by repeat (first | (with_reducible first | exact HB.out | apply below_alloc | apply pw_below_drewN | apply below_drew1 | refine below_set ?_ GE195.out) | exact HB.out))) : w.heap.size ≤ gb196)); have n5_ := Aside0.mk ((by rw [hg]; exact Nat.ne_of_lt (blk_lt (g := gb195) (o := .cells #[.slice A0_0 l0_0.length c0_0, .slice A0_1 l0_1.length c0_1, .slice A0_2 l0_2.length c0_2] 25 (0, 0)) (by (with_reducible repeat (first | refine blk_drewN ?_ _ | refine blk_drew ?_ | refine blk_alloc ?_ _)); exact BK195.out)) : gb195 ≠ gb196)); have n6_ := Aside0.mk ((by rw [hg]; exact Nat.ne_of_gt (blk_lt (g := gb195) (o := .cells #[.slice A0_0 l0_0.length c0_0, .slice A0_1 l0_1.length c0_1, .slice A0_2 l0_2.length c0_2] 25 (0, 0)) (by (with_reducible repeat (first | refine blk_drewN ?_ _ | refine blk_drew ?_ | refine blk_alloc ?_ _)); exact BK195.out)) : gb196 ≠ gb195)); clear BK195; clear HB; have BK195 := n0_; have HB := n1_; have BK196 := n2_; have GW196 := n3_; have GE196 := n4_; have NB195_196 := n5_; have NB196_195 := n6_; clear n0_ n1_ n2_ n3_ n4_ n5_ n6_; clear hb hbox hg)))
  go_loopg [7, 8, 9, 10] k (fun kq v7 v8 v9 v10 w' => ∃ (x7_1 : Int) (x8_1 : Int) (x9_1 : Int) (x10_1 : Int), v7 = .int .i64 x7_1 ∧ v8 = .int .i64 x8_1 ∧ v9 = .int .i64 x9_1 ∧ v10 = .int .i64 x10_1 ∧ Aside0 (emendateref12_At.l0 kq a1 a2 x7_1 x8_1 x9_1 x10_1 l0_0 l0_1 l0_2 = some (r1, r2, r3, r4)) ∧ Aside0 (kq ≤ k) ∧ Aside0 (w'.heap[gb195]? = some (.cells #[(.slice A0_0 l0_0.length c0_0), (.slice A0_1 l0_1.length c0_1), (.slice A0_2 l0_2.length c0_2)] 25 (0, 0))) ∧ Aside0 (w'.heap[gb196]? = some (.cells #[.int .i64 0, .int .i64 0, .string (⟨#[]⟩ : ByteArray), .int .i64 0] 32 (0, 0))) ∧ Aside0 (Below w.heap.size w w'))
  case atStart => exact ⟨(0), (0), ((-1)), (1), (by first | rfl | (simp; done) | (simp [*]; done)), (by first | rfl | (simp; done) | (simp [*]; done)), (by first | rfl | (simp; done) | (simp [*]; done)), (by first | rfl | (simp; done) | (simp [*]; done)), H', ⟨Nat.le_refl _⟩, ⟨by (with_reducible repeat (first | refine blk_drewN ?_ _ | refine blk_drew ?_ | refine blk_alloc ?_ _)); exact BK195.out⟩, ⟨by (with_reducible repeat (first | refine blk_drewN ?_ _ | refine blk_drew ?_ | refine blk_alloc ?_ _)); exact BK196.out⟩, ⟨by repeat (first | (with_reducible first | exact HB.out | apply below_alloc | apply pw_below_drewN | apply below_drew1 | refine below_set ?_ GE195.out | refine below_set ?_ GE196.out) | exact HB.out)⟩⟩
  case round =>
    clear H'
    try clear p2
    try clear c3
    obtain ⟨x7_1, x8_1, x9_1, x10_1, rfl, rfl, rfl, rfl, HA, HK1, BK195, BK196, HB⟩ := hrel
    cases gk with
    | zero => exact absurd HA.out (by simp [emendateref12_At.l0])
    | succ k1 =>
      have H := HA.out
      clear HA
      simp only [emendateref12_At.l0] at H
      by_cases c6 : (wrap64 (a2 + x8_1)) = (a1.size : Int)
      · rw [if_pos c6] at H
        have c6b0 : ((wrap64 (a2 + x8_1)) == (a1.size : Int)) = true := beq_iff_eq.mpr c6
        have c6b1 : ((wrap64 (a2 + x8_1)) != (a1.size : Int)) = false := bne_eq_false_iff_eq.mpr c6
        clear c6
        by_cases c7 : 0 ≤ a2
        · rw [if_pos c7] at H
          have c7b0 := eq_true c7
          have c7b1 : decide (0 ≤ a2) = true := decide_eq_true c7
          clear c7
          by_cases c8 : a2 ≤ (wrap64 (a2 + x10_1))
          · rw [if_pos c8] at H
            have c8b0 := eq_true c8
            have c8b1 : decide (a2 ≤ (wrap64 (a2 + x10_1))) = true := decide_eq_true c8
            by_cases c9 : (wrap64 (a2 + x10_1)) ≤ (a1.size : Int)
            · rw [if_pos c9] at H
              have c9b0 := eq_true c9
              have c9b1 : decide ((wrap64 (a2 + x10_1)) ≤ (a1.size : Int)) = true := decide_eq_true c9
              simp only [Option.some.injEq, Prod.mk.injEq] at H
              obtain ⟨rfl, rfl, rfl, rfl⟩ := H
              have hnb10 := NB196_195.out
              have hnc10 := NB195_196.out
              have hcz11_0 : wr.cell? ⟨gb196, 0, none⟩ = some (.int .i64 0) := (blk_cell BK196.out 0).trans rfl
              have hcz11_1 : wr.cell? ⟨gb196, 1, none⟩ = some (.int .i64 0) := (blk_cell BK196.out 1).trans rfl
              have hcz11_2 : wr.cell? ⟨gb196, 2, none⟩ = some (.string (⟨#[]⟩ : ByteArray)) := (blk_cell BK196.out 2).trans rfl
              have hcz11_3 : wr.cell? ⟨gb196, 3, none⟩ = some (.int .i64 0) := (blk_cell BK196.out 3).trans rfl
              have hfz11_0 := blk_frozen BK196.out 0
              have hfz11_1 := blk_frozen BK196.out 1
              have hfz11_2 := blk_frozen BK196.out 2
              have hfz11_3 := blk_frozen BK196.out 3
              go_wp2
              repeat (go_quiet (fail); try go_wp2)
              refine bodyPost_ret (results_cell_row rfl _ _ gb196 32 #[.int .i64 x9_1, .int .i64 a2, .string (a1.extract (a2 : Int).toNat ((wrap64 (a2 + x10_1)) : Int).toNat), .int .i64 (wrap64 (x8_1 + 1))] (0, 0) _ rfl (by (with_reducible repeat (first | refine blk_drewN ?_ _ | refine blk_drew ?_ | refine blk_alloc ?_ _)); refine blk_put (cs := #[.int .i64 x9_1, .int .i64 a2, .string (a1.extract (a2 : Int).toNat ((wrap64 (a2 + x10_1)) : Int).toNat), .int .i64 0]) ?_ 3 _ rfl; (with_reducible repeat (first | refine blk_drewN ?_ _ | refine blk_drew ?_ | refine blk_alloc ?_ _)); refine blk_put (cs := #[.int .i64 x9_1, .int .i64 a2, .string (⟨#[]⟩ : ByteArray), .int .i64 0]) ?_ 2 _ rfl; (with_reducible repeat (first | refine blk_drewN ?_ _ | refine blk_drew ?_ | refine blk_alloc ?_ _)); refine blk_put (cs := #[.int .i64 x9_1, .int .i64 0, .string (⟨#[]⟩ : ByteArray), .int .i64 0]) ?_ 1 _ rfl; (with_reducible repeat (first | refine blk_drewN ?_ _ | refine blk_drew ?_ | refine blk_alloc ?_ _)); refine blk_put (cs := #[.int .i64 0, .int .i64 0, .string (⟨#[]⟩ : ByteArray), .int .i64 0]) ?_ 0 _ rfl; (with_reducible repeat (first | refine blk_drewN ?_ _ | refine blk_drew ?_ | refine blk_alloc ?_ _)); exact BK196.out) Try.underlying32 rfl (by kernel_rfl)) rfl ?_
              exact ⟨by first | rfl | (simp [errW_none, errW_some] <;> rfl) | (simp [*, errW_none, errW_some] <;> rfl), by repeat (first | (with_reducible first | exact HB.out | apply below_alloc | apply pw_below_drewN | apply below_drew1 | refine below_set ?_ GE195.out | refine below_set ?_ GE196.out) | exact HB.out)⟩
            · rw [if_neg c9] at H
              exact absurd H (by simp)
          · rw [if_neg c8] at H
            exact absurd H (by simp)
        · rw [if_neg c7] at H
          exact absurd H (by simp)
      · rw [if_neg c6] at H
        have c6b0 : ((wrap64 (a2 + x8_1)) == (a1.size : Int)) = false := beq_eq_false_iff_ne.mpr c6
        have c6b1 : ((wrap64 (a2 + x8_1)) != (a1.size : Int)) = true := bne_iff_ne.mpr c6
        by_cases c12 : 0 ≤ x7_1
        · rw [if_pos c12] at H
          have c12b0 : decide (0 ≤ x7_1) = true := decide_eq_true c12
          clear c12
          by_cases c13 : x7_1 < (l0_1.length : Int)
          · rw [if_pos c13] at H
            have c13b0 : decide (x7_1 < (l0_1.length : Int)) = true := decide_eq_true c13
            clear c13
            obtain ⟨ji14, hji14⟩ : ∃ j_ : Int, (wrap64 (a2 + x8_1)) = j_ := ⟨_, rfl⟩
            replace H : (if 0 ≤ (ji14) then (if (ji14) < (a1.size : Int) then (if 0 ≤ (bt a1 (ji14)) then (if (bt a1 (ji14)) < (l0_0.length : Int) then (if 0 ≤ (rd l0_0 (bt a1 (ji14))) then (if (rd l0_0 (bt a1 (ji14))) < ((rd_L3 l0_1 x7_1).length : Int) then (if (rd (rd_L3 l0_1 x7_1) (rd l0_0 (bt a1 (ji14)))) < 0 then (if 0 ≤ a2 then (if a2 ≤ (wrap64 (a2 + x10_1)) then (if (wrap64 (a2 + x10_1)) ≤ (a1.size : Int) then (some (x9_1, a2, a1.extract (a2 : Int).toNat ((wrap64 (a2 + x10_1)) : Int).toNat, wrap64 (x8_1 + 1))) else (none)) else (none)) else (none)) else (if 0 ≤ (rd (rd_L3 l0_1 x7_1) (rd l0_0 (bt a1 (ji14)))) then (if (rd (rd_L3 l0_1 x7_1) (rd l0_0 (bt a1 (ji14)))) < (l0_2.length : Int) then (if (rd l0_2 (rd (rd_L3 l0_1 x7_1) (rd l0_0 (bt a1 (ji14))))) ≥ 0 then (emendateref12_At.l0 k1 a1 a2 (rd (rd_L3 l0_1 x7_1) (rd l0_0 (bt a1 (ji14)))) (wrap64 (x8_1 + 1)) (rd l0_2 (rd (rd_L3 l0_1 x7_1) (rd l0_0 (bt a1 (ji14))))) (wrap64 (x8_1 + 1)) l0_0 l0_1 l0_2) else (emendateref12_At.l0 k1 a1 a2 (rd (rd_L3 l0_1 x7_1) (rd l0_0 (bt a1 (ji14)))) (wrap64 (x8_1 + 1)) x9_1 x10_1 l0_0 l0_1 l0_2)) else (none)) else (none))) else (none)) else (none)) else (none)) else (none)) else (none)) else (none)) = some (r1, r2, r3, r4) := by first | (rw [hji14] at H; exact H) | (simp only [hji14] at H ⊢; exact H)
            (try rw [hji14] at c6b0)
            (try rw [hji14] at c6b1)
            have hji14w : (IntKind.i64.wrap (a2 + x8_1)) = ji14 := (i64_w _).trans hji14
            by_cases c15 : 0 ≤ (ji14)
            · rw [if_pos c15] at H
              have c15b0 : decide (0 ≤ (ji14)) = true := decide_eq_true c15
              clear c15
              by_cases c16 : (ji14) < (a1.size : Int)
              · rw [if_pos c16] at H
                have c16b0 : decide ((ji14) < (a1.size : Int)) = true := decide_eq_true c16
                clear c16
                by_cases c18 : 0 ≤ (bt a1 (ji14))
                · rw [if_pos c18] at H
                  have c18b0 : decide (0 ≤ (bt a1 (ji14))) = true := decide_eq_true c18
                  clear c18
                  by_cases c19 : (bt a1 (ji14)) < (l0_0.length : Int)
                  · rw [if_pos c19] at H
                    have c19b0 : decide ((bt a1 (ji14)) < (l0_0.length : Int)) = true := decide_eq_true c19
                    clear c19
                    by_cases c20 : 0 ≤ (rd l0_0 (bt a1 (ji14)))
                    · rw [if_pos c20] at H
                      have c20b0 : decide (0 ≤ (rd l0_0 (bt a1 (ji14)))) = true := decide_eq_true c20
                      clear c20
                      by_cases c21 : (rd l0_0 (bt a1 (ji14))) < ((rd_L3 l0_1 x7_1).length : Int)
                      · rw [if_pos c21] at H
                        have c21b0 : decide ((rd l0_0 (bt a1 (ji14))) < ((rd_L3 l0_1 x7_1).length : Int)) = true := decide_eq_true c21
                        clear c21
                        by_cases c22 : (rd (rd_L3 l0_1 x7_1) (rd l0_0 (bt a1 (ji14)))) < 0
                        · rw [if_pos c22] at H
                          have c22b0 : decide ((rd (rd_L3 l0_1 x7_1) (rd l0_0 (bt a1 (ji14)))) < 0) = true := decide_eq_true c22
                          clear c22
                          by_cases c23 : 0 ≤ a2
                          · rw [if_pos c23] at H
                            have c23b0 := eq_true c23
                            have c23b1 : decide (0 ≤ a2) = true := decide_eq_true c23
                            clear c23
                            by_cases c24 : a2 ≤ (wrap64 (a2 + x10_1))
                            · rw [if_pos c24] at H
                              have c24b0 := eq_true c24
                              have c24b1 : decide (a2 ≤ (wrap64 (a2 + x10_1))) = true := decide_eq_true c24
                              by_cases c25 : (wrap64 (a2 + x10_1)) ≤ (a1.size : Int)
                              · rw [if_pos c25] at H
                                have c25b0 := eq_true c25
                                have c25b1 : decide ((wrap64 (a2 + x10_1)) ≤ (a1.size : Int)) = true := decide_eq_true c25
                                simp only [Option.some.injEq, Prod.mk.injEq] at H
                                obtain ⟨rfl, rfl, rfl, rfl⟩ := H
                                have hnb26 := NB195_196.out
                                have hnc26 := NB196_195.out
                                have hcz27_0 : wr.cell? ⟨gb195, 0, none⟩ = some (.slice A0_0 l0_0.length c0_0) := (blk_cell BK195.out 0).trans rfl
                                have hcz27_1 : wr.cell? ⟨gb195, 1, none⟩ = some (.slice A0_1 l0_1.length c0_1) := (blk_cell BK195.out 1).trans rfl
                                have hcz27_2 : wr.cell? ⟨gb195, 2, none⟩ = some (.slice A0_2 l0_2.length c0_2) := (blk_cell BK195.out 2).trans rfl
                                have hfz27_0 := blk_frozen BK195.out 0
                                have hfz27_1 := blk_frozen BK195.out 1
                                have hfz27_2 := blk_frozen BK195.out 2
                                have p197 : 0 ≤ (x7_1 : Int) := of_decide_eq_true (by first | (with_reducible assumption) | assumption)
                                have q197 : x7_1 < (l0_1.length : Int) := of_decide_eq_true (by first | (with_reducible assumption) | assumption)
                                obtain ⟨ad197, A197_0, c197_0, e197, hx197_0, hl197_0, hi197_0⟩ := at_L3 HR0_1.out x7_1 p197 q197
                                cases e197
                                replace hx197_0 := (HB.out.cell (World.block_lt_of_cell? w _ hx197_0)).trans hx197_0
                                have HR197_0 := Aside0.mk hi197_0
                                have HC197_0 := Aside0.mk hl197_0
                                clear hi197_0 hl197_0
                                replace p197 := eq_true p197
                                replace q197 := eq_true q197
                                have p17 : 0 ≤ ((ji14) : Int) := of_decide_eq_true (by first | (with_reducible assumption) | assumption)
                                have q17 : (ji14) < (a1.size : Int) := of_decide_eq_true (by first | (with_reducible assumption) | assumption)
                                have hx17 := bt_at a1 (ji14)
                                replace p17 := eq_true p17
                                replace q17 := eq_true q17
                                have p198 : 0 ≤ ((bt a1 (ji14)) : Int) := of_decide_eq_true (by first | (with_reducible assumption) | assumption)
                                have q198 : (bt a1 (ji14)) < (l0_0.length : Int) := of_decide_eq_true (by first | (with_reducible assumption) | assumption)
                                obtain ⟨ad198, e198, hx198_0⟩ := Kd.at_int HR0_0.out (bt a1 (ji14)) p198 q198
                                cases e198
                                replace hx198_0 := (HB.out.cell (World.block_lt_of_cell? w _ hx198_0)).trans hx198_0
                                replace p198 := eq_true p198
                                replace q198 := eq_true q198
                                have p199 : 0 ≤ ((rd l0_0 (bt a1 (ji14))) : Int) := of_decide_eq_true (by first | (with_reducible assumption) | assumption)
                                have q199 : (rd l0_0 (bt a1 (ji14))) < ((rd_L3 l0_1 x7_1).length : Int) := of_decide_eq_true (by first | (with_reducible assumption) | assumption)
                                obtain ⟨ad199, e199, hx199_0⟩ := Kd.at_int HR197_0.out (rd l0_0 (bt a1 (ji14))) p199 q199
                                cases e199
                                replace hx199_0 := (HB.out.cell (World.block_lt_of_cell? w _ hx199_0)).trans hx199_0
                                replace p199 := eq_true p199
                                replace q199 := eq_true q199
                                have hcz28_0 : wr.cell? ⟨gb196, 0, none⟩ = some (.int .i64 0) := (blk_cell BK196.out 0).trans rfl
                                have hcz28_1 : wr.cell? ⟨gb196, 1, none⟩ = some (.int .i64 0) := (blk_cell BK196.out 1).trans rfl
                                have hcz28_2 : wr.cell? ⟨gb196, 2, none⟩ = some (.string (⟨#[]⟩ : ByteArray)) := (blk_cell BK196.out 2).trans rfl
                                have hcz28_3 : wr.cell? ⟨gb196, 3, none⟩ = some (.int .i64 0) := (blk_cell BK196.out 3).trans rfl
                                have hfz28_0 := blk_frozen BK196.out 0
                                have hfz28_1 := blk_frozen BK196.out 1
                                have hfz28_2 := blk_frozen BK196.out 2
                                have hfz28_3 := blk_frozen BK196.out 3
                                go_wp2
                                repeat (go_quiet (fail); try go_wp2)
                                refine bodyPost_ret (results_cell_row rfl _ _ gb196 32 #[.int .i64 x9_1, .int .i64 a2, .string (a1.extract (a2 : Int).toNat ((wrap64 (a2 + x10_1)) : Int).toNat), .int .i64 (wrap64 (x8_1 + 1))] (0, 0) _ rfl (by (with_reducible repeat (first | refine blk_drewN ?_ _ | refine blk_drew ?_ | refine blk_alloc ?_ _)); refine blk_put (cs := #[.int .i64 x9_1, .int .i64 a2, .string (a1.extract (a2 : Int).toNat ((wrap64 (a2 + x10_1)) : Int).toNat), .int .i64 0]) ?_ 3 _ rfl; (with_reducible repeat (first | refine blk_drewN ?_ _ | refine blk_drew ?_ | refine blk_alloc ?_ _)); refine blk_put (cs := #[.int .i64 x9_1, .int .i64 a2, .string (⟨#[]⟩ : ByteArray), .int .i64 0]) ?_ 2 _ rfl; (with_reducible repeat (first | refine blk_drewN ?_ _ | refine blk_drew ?_ | refine blk_alloc ?_ _)); refine blk_put (cs := #[.int .i64 x9_1, .int .i64 0, .string (⟨#[]⟩ : ByteArray), .int .i64 0]) ?_ 1 _ rfl; (with_reducible repeat (first | refine blk_drewN ?_ _ | refine blk_drew ?_ | refine blk_alloc ?_ _)); refine blk_put (cs := #[.int .i64 0, .int .i64 0, .string (⟨#[]⟩ : ByteArray), .int .i64 0]) ?_ 0 _ rfl; (with_reducible repeat (first | refine blk_drewN ?_ _ | refine blk_drew ?_ | refine blk_alloc ?_ _)); exact BK196.out) Try.underlying32 rfl (by kernel_rfl)) rfl ?_
                                exact ⟨by first | rfl | (simp [errW_none, errW_some] <;> rfl) | (simp only [← hji14]; first | rfl | (simp [errW_none, errW_some] <;> rfl)) | (simp [*, errW_none, errW_some] <;> rfl), by repeat (first | (with_reducible first | exact HB.out | apply below_alloc | apply pw_below_drewN | apply below_drew1 | refine below_set ?_ GE195.out | refine below_set ?_ GE196.out) | exact HB.out)⟩
                              · rw [if_neg c25] at H
                                exact absurd H (by simp)
                            · rw [if_neg c24] at H
                              exact absurd H (by simp)
                          · rw [if_neg c23] at H
                            exact absurd H (by simp)
                        · rw [if_neg c22] at H
                          have c22b0 : decide ((rd (rd_L3 l0_1 x7_1) (rd l0_0 (bt a1 (ji14)))) < 0) = false := decide_eq_false c22
                          clear c22
                          by_cases c29 : 0 ≤ (rd (rd_L3 l0_1 x7_1) (rd l0_0 (bt a1 (ji14))))
                          · rw [if_pos c29] at H
                            have c29b0 : decide (0 ≤ (rd (rd_L3 l0_1 x7_1) (rd l0_0 (bt a1 (ji14))))) = true := decide_eq_true c29
                            clear c29
                            by_cases c30 : (rd (rd_L3 l0_1 x7_1) (rd l0_0 (bt a1 (ji14)))) < (l0_2.length : Int)
                            · rw [if_pos c30] at H
                              have c30b0 : decide ((rd (rd_L3 l0_1 x7_1) (rd l0_0 (bt a1 (ji14)))) < (l0_2.length : Int)) = true := decide_eq_true c30
                              clear c30
                              by_cases c31 : (rd l0_2 (rd (rd_L3 l0_1 x7_1) (rd l0_0 (bt a1 (ji14))))) ≥ 0
                              · rw [if_pos c31] at H
                                have c31b0 : decide (0 ≤ (rd l0_2 (rd (rd_L3 l0_1 x7_1) (rd l0_0 (bt a1 (ji14)))))) = true := decide_eq_true c31
                                clear c31
                                have H' := Aside0.mk H
                                clear H
                                have hnb32 := NB195_196.out
                                have hnc32 := NB196_195.out
                                have hcz33_0 : wr.cell? ⟨gb195, 0, none⟩ = some (.slice A0_0 l0_0.length c0_0) := (blk_cell BK195.out 0).trans rfl
                                have hcz33_1 : wr.cell? ⟨gb195, 1, none⟩ = some (.slice A0_1 l0_1.length c0_1) := (blk_cell BK195.out 1).trans rfl
                                have hcz33_2 : wr.cell? ⟨gb195, 2, none⟩ = some (.slice A0_2 l0_2.length c0_2) := (blk_cell BK195.out 2).trans rfl
                                have hfz33_0 := blk_frozen BK195.out 0
                                have hfz33_1 := blk_frozen BK195.out 1
                                have hfz33_2 := blk_frozen BK195.out 2
                                have p197 : 0 ≤ (x7_1 : Int) := of_decide_eq_true (by first | (with_reducible assumption) | assumption)
                                have q197 : x7_1 < (l0_1.length : Int) := of_decide_eq_true (by first | (with_reducible assumption) | assumption)
                                obtain ⟨ad197, A197_0, c197_0, e197, hx197_0, hl197_0, hi197_0⟩ := at_L3 HR0_1.out x7_1 p197 q197
                                cases e197
                                replace hx197_0 := (HB.out.cell (World.block_lt_of_cell? w _ hx197_0)).trans hx197_0
                                have HR197_0 := Aside0.mk hi197_0
                                have HC197_0 := Aside0.mk hl197_0
                                clear hi197_0 hl197_0
                                replace p197 := eq_true p197
                                replace q197 := eq_true q197
                                have p17 : 0 ≤ ((ji14) : Int) := of_decide_eq_true (by first | (with_reducible assumption) | assumption)
                                have q17 : (ji14) < (a1.size : Int) := of_decide_eq_true (by first | (with_reducible assumption) | assumption)
                                have hx17 := bt_at a1 (ji14)
                                replace p17 := eq_true p17
                                replace q17 := eq_true q17
                                have p198 : 0 ≤ ((bt a1 (ji14)) : Int) := of_decide_eq_true (by first | (with_reducible assumption) | assumption)
                                have q198 : (bt a1 (ji14)) < (l0_0.length : Int) := of_decide_eq_true (by first | (with_reducible assumption) | assumption)
                                obtain ⟨ad198, e198, hx198_0⟩ := Kd.at_int HR0_0.out (bt a1 (ji14)) p198 q198
                                cases e198
                                replace hx198_0 := (HB.out.cell (World.block_lt_of_cell? w _ hx198_0)).trans hx198_0
                                replace p198 := eq_true p198
                                replace q198 := eq_true q198
                                have p199 : 0 ≤ ((rd l0_0 (bt a1 (ji14))) : Int) := of_decide_eq_true (by first | (with_reducible assumption) | assumption)
                                have q199 : (rd l0_0 (bt a1 (ji14))) < ((rd_L3 l0_1 x7_1).length : Int) := of_decide_eq_true (by first | (with_reducible assumption) | assumption)
                                obtain ⟨ad199, e199, hx199_0⟩ := Kd.at_int HR197_0.out (rd l0_0 (bt a1 (ji14))) p199 q199
                                cases e199
                                replace hx199_0 := (HB.out.cell (World.block_lt_of_cell? w _ hx199_0)).trans hx199_0
                                replace p199 := eq_true p199
                                replace q199 := eq_true q199
                                have p200 : 0 ≤ ((rd (rd_L3 l0_1 x7_1) (rd l0_0 (bt a1 (ji14)))) : Int) := of_decide_eq_true (by first | (with_reducible assumption) | assumption)
                                have q200 : (rd (rd_L3 l0_1 x7_1) (rd l0_0 (bt a1 (ji14)))) < (l0_2.length : Int) := of_decide_eq_true (by first | (with_reducible assumption) | assumption)
                                obtain ⟨ad200, e200, hx200_0⟩ := Kd.at_int HR0_2.out (rd (rd_L3 l0_1 x7_1) (rd l0_0 (bt a1 (ji14)))) p200 q200
                                cases e200
                                replace hx200_0 := (HB.out.cell (World.block_lt_of_cell? w _ hx200_0)).trans hx200_0
                                replace p200 := eq_true p200
                                replace q200 := eq_true q200
                                have p201 : 0 ≤ ((rd (rd_L3 l0_1 x7_1) (rd l0_0 (bt a1 (ji14)))) : Int) := of_decide_eq_true (by first | (with_reducible assumption) | assumption)
                                have q201 : (rd (rd_L3 l0_1 x7_1) (rd l0_0 (bt a1 (ji14)))) < (l0_2.length : Int) := of_decide_eq_true (by first | (with_reducible assumption) | assumption)
                                obtain ⟨ad201, e201, hx201_0⟩ := Kd.at_int HR0_2.out (rd (rd_L3 l0_1 x7_1) (rd l0_0 (bt a1 (ji14)))) p201 q201
                                obtain rfl : ad200 = ad201 := (by injection e201)
                                replace hx201_0 := (HB.out.cell (World.block_lt_of_cell? w _ hx201_0)).trans hx201_0
                                replace p201 := eq_true p201
                                replace q201 := eq_true q201
                                go_wp2
                                repeat (go_quiet (fail); try go_wp2)
                                go_roundg k1
                                case measure => have := HK1.out; omega
                                case rel => exact ⟨(rd (rd_L3 l0_1 x7_1) (rd l0_0 (bt a1 (ji14)))), (wrap64 (x8_1 + 1)), (rd l0_2 (rd (rd_L3 l0_1 x7_1) (rd l0_0 (bt a1 (ji14))))), (wrap64 (x8_1 + 1)), (by first | rfl | (simp; done) | (simp only [← hji14] <;> (first | rfl | simp)) | (simp [*]; done)), (by first | rfl | (simp; done) | (simp [*]; done)), (by first | rfl | (simp; done) | (simp only [← hji14] <;> (first | rfl | simp)) | (simp [*]; done)), (by first | rfl | (simp; done) | (simp [*]; done)), H', ⟨by have := HK1.out; omega⟩, ⟨by (with_reducible repeat (first | refine blk_drewN ?_ _ | refine blk_drew ?_ | refine blk_alloc ?_ _)); exact BK195.out⟩, ⟨by (with_reducible repeat (first | refine blk_drewN ?_ _ | refine blk_drew ?_ | refine blk_alloc ?_ _)); exact BK196.out⟩, ⟨by repeat (first | (with_reducible first | exact HB.out | apply below_alloc | apply pw_below_drewN | apply below_drew1 | refine below_set ?_ GE195.out | refine below_set ?_ GE196.out) | exact HB.out)⟩⟩
                              · rw [if_neg c31] at H
                                have c31b0 : decide (0 ≤ (rd l0_2 (rd (rd_L3 l0_1 x7_1) (rd l0_0 (bt a1 (ji14)))))) = false := decide_eq_false c31
                                clear c31
                                have H' := Aside0.mk H
                                clear H
                                have hnb34 := NB195_196.out
                                have hnc34 := NB196_195.out
                                have hcz35_0 : wr.cell? ⟨gb195, 0, none⟩ = some (.slice A0_0 l0_0.length c0_0) := (blk_cell BK195.out 0).trans rfl
                                have hcz35_1 : wr.cell? ⟨gb195, 1, none⟩ = some (.slice A0_1 l0_1.length c0_1) := (blk_cell BK195.out 1).trans rfl
                                have hcz35_2 : wr.cell? ⟨gb195, 2, none⟩ = some (.slice A0_2 l0_2.length c0_2) := (blk_cell BK195.out 2).trans rfl
                                have hfz35_0 := blk_frozen BK195.out 0
                                have hfz35_1 := blk_frozen BK195.out 1
                                have hfz35_2 := blk_frozen BK195.out 2
                                have p197 : 0 ≤ (x7_1 : Int) := of_decide_eq_true (by first | (with_reducible assumption) | assumption)
                                have q197 : x7_1 < (l0_1.length : Int) := of_decide_eq_true (by first | (with_reducible assumption) | assumption)
                                obtain ⟨ad197, A197_0, c197_0, e197, hx197_0, hl197_0, hi197_0⟩ := at_L3 HR0_1.out x7_1 p197 q197
                                cases e197
                                replace hx197_0 := (HB.out.cell (World.block_lt_of_cell? w _ hx197_0)).trans hx197_0
                                have HR197_0 := Aside0.mk hi197_0
                                have HC197_0 := Aside0.mk hl197_0
                                clear hi197_0 hl197_0
                                replace p197 := eq_true p197
                                replace q197 := eq_true q197
                                have p17 : 0 ≤ ((ji14) : Int) := of_decide_eq_true (by first | (with_reducible assumption) | assumption)
                                have q17 : (ji14) < (a1.size : Int) := of_decide_eq_true (by first | (with_reducible assumption) | assumption)
                                have hx17 := bt_at a1 (ji14)
                                replace p17 := eq_true p17
                                replace q17 := eq_true q17
                                have p198 : 0 ≤ ((bt a1 (ji14)) : Int) := of_decide_eq_true (by first | (with_reducible assumption) | assumption)
                                have q198 : (bt a1 (ji14)) < (l0_0.length : Int) := of_decide_eq_true (by first | (with_reducible assumption) | assumption)
                                obtain ⟨ad198, e198, hx198_0⟩ := Kd.at_int HR0_0.out (bt a1 (ji14)) p198 q198
                                cases e198
                                replace hx198_0 := (HB.out.cell (World.block_lt_of_cell? w _ hx198_0)).trans hx198_0
                                replace p198 := eq_true p198
                                replace q198 := eq_true q198
                                have p199 : 0 ≤ ((rd l0_0 (bt a1 (ji14))) : Int) := of_decide_eq_true (by first | (with_reducible assumption) | assumption)
                                have q199 : (rd l0_0 (bt a1 (ji14))) < ((rd_L3 l0_1 x7_1).length : Int) := of_decide_eq_true (by first | (with_reducible assumption) | assumption)
                                obtain ⟨ad199, e199, hx199_0⟩ := Kd.at_int HR197_0.out (rd l0_0 (bt a1 (ji14))) p199 q199
                                cases e199
                                replace hx199_0 := (HB.out.cell (World.block_lt_of_cell? w _ hx199_0)).trans hx199_0
                                replace p199 := eq_true p199
                                replace q199 := eq_true q199
                                have p200 : 0 ≤ ((rd (rd_L3 l0_1 x7_1) (rd l0_0 (bt a1 (ji14)))) : Int) := of_decide_eq_true (by first | (with_reducible assumption) | assumption)
                                have q200 : (rd (rd_L3 l0_1 x7_1) (rd l0_0 (bt a1 (ji14)))) < (l0_2.length : Int) := of_decide_eq_true (by first | (with_reducible assumption) | assumption)
                                obtain ⟨ad200, e200, hx200_0⟩ := Kd.at_int HR0_2.out (rd (rd_L3 l0_1 x7_1) (rd l0_0 (bt a1 (ji14)))) p200 q200
                                cases e200
                                replace hx200_0 := (HB.out.cell (World.block_lt_of_cell? w _ hx200_0)).trans hx200_0
                                replace p200 := eq_true p200
                                replace q200 := eq_true q200
                                go_wp2
                                repeat (go_quiet (fail); try go_wp2)
                                go_roundg k1
                                case measure => have := HK1.out; omega
                                case rel => exact ⟨(rd (rd_L3 l0_1 x7_1) (rd l0_0 (bt a1 (ji14)))), (wrap64 (x8_1 + 1)), (x9_1), (x10_1), (by first | rfl | (simp; done) | (simp only [← hji14] <;> (first | rfl | simp)) | (simp [*]; done)), (by first | rfl | (simp; done) | (simp [*]; done)), (by first | rfl | (simp; done) | (simp [*]; done)), (by first | rfl | (simp; done) | (simp [*]; done)), H', ⟨by have := HK1.out; omega⟩, ⟨by (with_reducible repeat (first | refine blk_drewN ?_ _ | refine blk_drew ?_ | refine blk_alloc ?_ _)); exact BK195.out⟩, ⟨by (with_reducible repeat (first | refine blk_drewN ?_ _ | refine blk_drew ?_ | refine blk_alloc ?_ _)); exact BK196.out⟩, ⟨by repeat (first | (with_reducible first | exact HB.out | apply below_alloc | apply pw_below_drewN | apply below_drew1 | refine below_set ?_ GE195.out | refine below_set ?_ GE196.out) | exact HB.out)⟩⟩
                            · rw [if_neg c30] at H
                              exact absurd H (by simp)
                          · rw [if_neg c29] at H
                            exact absurd H (by simp)
                      · rw [if_neg c21] at H
                        exact absurd H (by simp)
                    · rw [if_neg c20] at H
                      exact absurd H (by simp)
                  · rw [if_neg c19] at H
                    exact absurd H (by simp)
                · rw [if_neg c18] at H
                  exact absurd H (by simp)
              · rw [if_neg c16] at H
                exact absurd H (by simp)
            · rw [if_neg c15] at H
              exact absurd H (by simp)
          · rw [if_neg c13] at H
            exact absurd H (by simp)
        · rw [if_neg c12] at H
          exact absurd H (by simp)

end Go.Proofs.Ytepjegfhlglajaa.Q
