-- Written by a program of this session (wip/tools) over the translation; stand-ins' contracts are proved by hand.
import Derived.Test.YtepjegfhlglajaaMQ0
namespace Go.Proofs.Ytepjegfhlglajaa.Q
open Go.RowKit Go.Proofs.YtepjegfhlglajaaW.PrintWords Go.Proofs.YtepjegfhlglajaaW.PrintLast Go.Proofs.YtepjegfhlglajaaW.PrintMore
attribute [local go_sem] max2_int min2_int max_two min_two max_three min_three max_four min_four   -- for this text's walks alone
set_option linter.unusedVariables false
set_option linter.unusedSimpArgs false
/-- A word of a set with a bit more. -/
def bitX (x b : Int) : Int := bits .or .u64 x (IntKind.u64.wrap (2 ^ (b % 64).toNat))
def emendateref07_with.f (a0_0 : Int) (a0_1 : Int) (a0_2 : Int) (a0_3 : Int) (a1 : Int) : Option (Int × Int × Int × Int) :=
  if 0 ≤ a1 then (if a1 < 256 then (if a1 / 64 = 0 then some (bitX a0_0 a1, a0_1, a0_2, a0_3) else if a1 / 64 = 1 then some (a0_0, bitX a0_1 a1, a0_2, a0_3) else if a1 / 64 = 2 then some (a0_0, a0_1, bitX a0_2 a1, a0_3) else some (a0_0, a0_1, a0_2, bitX a0_3 a1)) else none) else none
theorem blk_new1 (w : World) (o o' : Obj) : ((w.alloc o).alloc o').heap[w.heap.size + 1]? = some o' := by simpa using blk_new (w.alloc o) o'
set_option maxHeartbeats 8000000 in
set_option maxRecDepth 100000 in
theorem ref07_with0.walk (x0 x1 x2 x3 b : Int) (hb0 : 0 ≤ b) (hb1 : b < 256) (hq : b / 64 = 0) (w : World) :
    Calls Try.prog 57 #[.agg #[.int .u64 x0, .int .u64 x1, .int .u64 x2, .int .u64 x3], .int .u8 b] w fun e w' => e = .returned (.agg #[.int .u64 (bitX x0 b), .int .u64 x1, .int .u64 x2, .int .u64 x3]) ∧ Below w.heap.size w w' := by
  have hu80 := Try.underlying80
  go_enter Try.func57, Try.ntmps57
  go_wp2
  refine bodyPost_ret (results_cell_row rfl _ _ (w.heap.size + 1) 80 #[.int .u64 (bitX x0 b), .int .u64 x1, .int .u64 x2, .int .u64 x3] (0, 0) _ rfl (blk_new1 w _ _) Try.underlying80 rfl (by kernel_rfl)) rfl ?_
  exact ⟨rfl, below_alloc (below_alloc (Below.refl _ _) _) _⟩
set_option maxHeartbeats 8000000 in
set_option maxRecDepth 100000 in
theorem ref07_with1.walk (x0 x1 x2 x3 b : Int) (hb0 : 0 ≤ b) (hb1 : b < 256) (hq : b / 64 = 1) (w : World) :
    Calls Try.prog 57 #[.agg #[.int .u64 x0, .int .u64 x1, .int .u64 x2, .int .u64 x3], .int .u8 b] w fun e w' => e = .returned (.agg #[.int .u64 x0, .int .u64 (bitX x1 b), .int .u64 x2, .int .u64 x3]) ∧ Below w.heap.size w w' := by
  have hu80 := Try.underlying80
  go_enter Try.func57, Try.ntmps57
  go_wp2
  refine bodyPost_ret (results_cell_row rfl _ _ (w.heap.size + 1) 80 #[.int .u64 x0, .int .u64 (bitX x1 b), .int .u64 x2, .int .u64 x3] (0, 0) _ rfl (blk_new1 w _ _) Try.underlying80 rfl (by kernel_rfl)) rfl ?_
  exact ⟨rfl, below_alloc (below_alloc (Below.refl _ _) _) _⟩
set_option maxHeartbeats 8000000 in
set_option maxRecDepth 100000 in
theorem ref07_with2.walk (x0 x1 x2 x3 b : Int) (hb0 : 0 ≤ b) (hb1 : b < 256) (hq : b / 64 = 2) (w : World) :
    Calls Try.prog 57 #[.agg #[.int .u64 x0, .int .u64 x1, .int .u64 x2, .int .u64 x3], .int .u8 b] w fun e w' => e = .returned (.agg #[.int .u64 x0, .int .u64 x1, .int .u64 (bitX x2 b), .int .u64 x3]) ∧ Below w.heap.size w w' := by
  have hu80 := Try.underlying80
  go_enter Try.func57, Try.ntmps57
  go_wp2
  refine bodyPost_ret (results_cell_row rfl _ _ (w.heap.size + 1) 80 #[.int .u64 x0, .int .u64 x1, .int .u64 (bitX x2 b), .int .u64 x3] (0, 0) _ rfl (blk_new1 w _ _) Try.underlying80 rfl (by kernel_rfl)) rfl ?_
  exact ⟨rfl, below_alloc (below_alloc (Below.refl _ _) _) _⟩
set_option maxHeartbeats 8000000 in
set_option maxRecDepth 100000 in
theorem ref07_with3.walk (x0 x1 x2 x3 b : Int) (hb0 : 0 ≤ b) (hb1 : b < 256) (hq : b / 64 = 3) (w : World) :
    Calls Try.prog 57 #[.agg #[.int .u64 x0, .int .u64 x1, .int .u64 x2, .int .u64 x3], .int .u8 b] w fun e w' => e = .returned (.agg #[.int .u64 x0, .int .u64 x1, .int .u64 x2, .int .u64 (bitX x3 b)]) ∧ Below w.heap.size w w' := by
  have hu80 := Try.underlying80
  go_enter Try.func57, Try.ntmps57
  go_wp2
  refine bodyPost_ret (results_cell_row rfl _ _ (w.heap.size + 1) 80 #[.int .u64 x0, .int .u64 x1, .int .u64 x2, .int .u64 (bitX x3 b)] (0, 0) _ rfl (blk_new1 w _ _) Try.underlying80 rfl (by kernel_rfl)) rfl ?_
  exact ⟨rfl, below_alloc (below_alloc (Below.refl _ _) _) _⟩
theorem emendateref07_with.calls (a0_0 : Int) (a0_1 : Int) (a0_2 : Int) (a0_3 : Int) (a1 : Int) (r1 : Int) (r2 : Int) (r3 : Int) (r4 : Int) (w : World) (h : emendateref07_with.f a0_0 a0_1 a0_2 a0_3 a1 = some (r1, r2, r3, r4)) :
    Calls Try.prog 57 #[.agg #[.int .u64 a0_0, .int .u64 a0_1, .int .u64 a0_2, .int .u64 a0_3], .int .u8 a1] w fun e w' => e = .returned (.agg #[.int .u64 r1, .int .u64 r2, .int .u64 r3, .int .u64 r4]) ∧ Below w.heap.size w w' := by
  unfold emendateref07_with.f at h
  by_cases h0 : 0 ≤ a1
  case neg => rw [if_neg h0] at h; cases h
  by_cases h1 : a1 < 256
  case neg => rw [if_pos h0, if_neg h1] at h; cases h
  rw [if_pos h0, if_pos h1] at h
  by_cases q0 : a1 / 64 = 0
  · rw [if_pos q0] at h; injection h with h; injection h with e1 h; injection h with e2 h; injection h with e3 e4; subst e1 e2 e3 e4; exact ref07_with0.walk _ _ _ _ _ h0 h1 q0 w
  · rw [if_neg q0] at h
    by_cases q1 : a1 / 64 = 1
    · rw [if_pos q1] at h; injection h with h; injection h with e1 h; injection h with e2 h; injection h with e3 e4; subst e1 e2 e3 e4; exact ref07_with1.walk _ _ _ _ _ h0 h1 q1 w
    · rw [if_neg q1] at h
      by_cases q2 : a1 / 64 = 2
      · rw [if_pos q2] at h; injection h with h; injection h with e1 h; injection h with e2 h; injection h with e3 e4; subst e1 e2 e3 e4; exact ref07_with2.walk _ _ _ _ _ h0 h1 q2 w
      · rw [if_neg q2] at h; injection h with h; injection h with e1 h; injection h with e2 h; injection h with e3 e4; subst e1 e2 e3 e4; exact ref07_with3.walk _ _ _ _ _ h0 h1 (by omega) w
end Go.Proofs.Ytepjegfhlglajaa.Q
