-- Written by a program of this session (wip/tools) over the translation; stand-ins' contracts are proved by hand.
import Derived.Test.YtepjegfhlglajaaMQ0
namespace Go.Proofs.Ytepjegfhlglajaa.Q
open Go.RowKit Go.Proofs.YtepjegfhlglajaaW.PrintWords Go.Proofs.YtepjegfhlglajaaW.PrintLast Go.Proofs.YtepjegfhlglajaaW.PrintMore
attribute [local go_sem] max2_int min2_int max_two min_two max_three min_three max_four min_four   -- for this text's walks alone
set_option linter.unusedVariables false
set_option linter.unusedSimpArgs false
/-- The bit of a word of a set. -/
def hasX (x b : Int) : Bool := bits .and .u64 (x / 2 ^ (b % 64).toNat) 1 == 1
def selX (x0 x1 x2 x3 b : Int) : Int := if b / 64 = 0 then x0 else if b / 64 = 1 then x1 else if b / 64 = 2 then x2 else x3
def emendateref07_Has.f (a0_0 : Int) (a0_1 : Int) (a0_2 : Int) (a0_3 : Int) (a1 : Int) : Option (Bool) := if 0 ≤ a1 then (if a1 < 256 then some (hasX (selX a0_0 a0_1 a0_2 a0_3 a1) a1) else none) else none
theorem selX_at (x0 x1 x2 x3 b : Int) (h0 : 0 ≤ b) (h1 : b < 256) : [Value.int .u64 x0, .int .u64 x1, .int .u64 x2, .int .u64 x3][(b / 64).toNat]? = some (Value.int .u64 (selX x0 x1 x2 x3 b)) := by
  have h : b / 64 = 0 ∨ b / 64 = 1 ∨ b / 64 = 2 ∨ b / 64 = 3 := by omega
  unfold selX
  rcases h with h | h | h | h <;> rw [h] <;> rfl
set_option maxHeartbeats 8000000 in
set_option maxRecDepth 100000 in
theorem ref07_Has.walk (x0 x1 x2 x3 b x : Int) (hb0 : 0 ≤ b) (hb1 : b < 256) (hx : [Value.int .u64 x0, .int .u64 x1, .int .u64 x2, .int .u64 x3][(b / 64).toNat]? = some (Value.int .u64 x)) (w : World) :
    Calls Try.prog 58 #[.agg #[.int .u64 x0, .int .u64 x1, .int .u64 x2, .int .u64 x3], .int .u8 b] w fun e w' => e = .returned (.bool (hasX x b)) ∧ Below w.heap.size w w' := by
  have hu80 := Try.underlying80
  go_enter Try.func58, Try.ntmps58
  go_wp2
  go_ret
  exact ⟨rfl, below_alloc (Below.refl _ _) _⟩
theorem emendateref07_Has.calls (a0_0 : Int) (a0_1 : Int) (a0_2 : Int) (a0_3 : Int) (a1 : Int) (r : Bool) (w : World) (h : emendateref07_Has.f a0_0 a0_1 a0_2 a0_3 a1 = some r) :
    Calls Try.prog 58 #[.agg #[.int .u64 a0_0, .int .u64 a0_1, .int .u64 a0_2, .int .u64 a0_3], .int .u8 a1] w fun e w' => e = .returned (.bool r) ∧ Below w.heap.size w w' := by
  unfold emendateref07_Has.f at h
  by_cases h0 : 0 ≤ a1
  · by_cases h1 : a1 < 256
    · rw [if_pos h0, if_pos h1] at h
      injection h with h
      subst h
      exact ref07_Has.walk _ _ _ _ _ _ h0 h1 (selX_at _ _ _ _ _ h0 h1) w
    · rw [if_pos h0, if_neg h1] at h; cases h
  · rw [if_neg h0] at h; cases h
end Go.Proofs.Ytepjegfhlglajaa.Q
