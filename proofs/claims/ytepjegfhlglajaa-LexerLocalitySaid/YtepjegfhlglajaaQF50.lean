-- Written by a program of this session (wip/tools) over the translation; stand-ins' contracts are proved by hand.
import Derived.Test.YtepjegfhlglajaaQ0
import Derived.Test.YtepjegfhlglajaaQF49
namespace Go.Proofs.Ytepjegfhlglajaa.Q
open Go.RowKit Go.Proofs.YtepjegfhlglajaaW.PrintWords Go.Proofs.YtepjegfhlglajaaW.PrintLast Go.Proofs.YtepjegfhlglajaaW.PrintMore
attribute [local go_sem] max2_int min2_int max_two min_two max_three min_three max_four min_four   -- for this text's walks alone
set_option linter.unusedVariables false
set_option linter.unusedSimpArgs false

/-! ### lexer_scanner_accepted: function 50 -/
def lexer_scanner_accepted.f (s0_0 : List Int) (s0_1 : List (List Int)) (s0_2 : List Int) (s0_3 : Int) : Option (Int × Int) := if 0 ≤ s0_3 then (if s0_3 < (s0_2.length : Int) then (some (rd s0_2 s0_3, s0_3)) else (none)) else (none)
set_option maxHeartbeats 8000000 in
set_option maxRecDepth 100000 in
theorem lexer_scanner_accepted.calls (g : Nat) (s0_0 : List Int) (s0_1 : List (List Int)) (s0_2 : List Int) (s0_3 : Int) (r1 : Int) (r2 : Int) (w0 w : World) (hI : IsS74 w0 w g s0_0 s0_1 s0_2 s0_3) (hB : Below w0.heap.size w0 w) (h : lexer_scanner_accepted.f s0_0 s0_1 s0_2 s0_3 = some (r1, r2)) :
    Calls Try.prog 50 #[.pointer (some ⟨g, 0, none⟩)] w fun e w' => e = .returned (.int .i64 r1) ∧ IsS74 w0 w' g s0_0 s0_1 s0_2 r2 ∧ Below w0.heap.size w0 w' ∧ KeepBut w w' g none := by
  have HI0 := Aside0.mk hI
  have HK := Aside0.mk (KeepBut.refl w g none)
  have HL := Aside0.mk hB.size
  clear hI
  have HW0 := Aside0.mk hB.size
  have HB := Aside0.mk hB
  clear hB
  have H : (if 0 ≤ s0_3 then (if s0_3 < (s0_2.length : Int) then (some (rd s0_2 s0_3, s0_3)) else (none)) else (none)) = some (r1, r2) := h
  clear h
  by_cases c2 : 0 ≤ s0_3
  · rw [if_pos c2] at H
    have c2b0 : decide (0 ≤ s0_3) = true := decide_eq_true c2
    clear c2
    by_cases c3 : s0_3 < (s0_2.length : Int)
    · rw [if_pos c3] at H
      have c3b0 : decide (s0_3 < (s0_2.length : Int)) = true := decide_eq_true c3
      clear c3
      simp only [Option.some.injEq, Prod.mk.injEq] at H
      obtain ⟨rfl, rfl⟩ := H
      obtain ⟨ASz4_0, cSz4_0, ASz4_1, cSz4_1, ASz4_2, cSz4_2, HGz4, hgz4, HSz4_0, HSz4_1, HSz4_2⟩ := HI0.out
      have hcz4_0 := cellS74_0 HGz4
      have hcz4_1 := cellS74_1 HGz4
      have hcz4_2 := cellS74_2 HGz4
      have hcz4_3 := cellS74_3 HGz4
      have hfz4_3 := blk_frozen HGz4 3
      clear HGz4 hgz4
      have p106 : 0 ≤ (s0_3 : Int) := of_decide_eq_true (by first | (with_reducible assumption) | assumption)
      have q106 : s0_3 < (s0_2.length : Int) := of_decide_eq_true (by first | (with_reducible assumption) | assumption)
      obtain ⟨ad106, e106, hx106_0⟩ := Kd.at_int HSz4_2 s0_3 p106 q106
      cases e106
      replace hx106_0 := pw_cell_below HB.out hx106_0
      replace p106 := eq_true p106
      replace q106 := eq_true q106
      go_enter Try.func50, Try.ntmps50
      go_wp2
      repeat (go_quiet (fail); try go_wp2)
      go_ret
      exact ⟨by first | rfl | (simp [errW_none, errW_some] <;> rfl) | (simp [*, errW_none, errW_some] <;> rfl), by repeat (first | (with_reducible first | exact HI0.out | apply IsS74.alloc | apply IsS74.drewN | apply IsS74.drew | apply IsS74.set_3) | exact HI0.out), by repeat (first | (with_reducible first | exact HB.out | apply below_alloc | apply pw_below_drewN | apply below_drew1 | refine below_set ?_ (IsS74.ge HI0.out)) | exact HB.out), by repeat (first | (with_reducible first | exact HK.out | apply KeepBut.set_ | apply keep_drewN | apply keep_drew | apply keep_alloc) | exact HK.out)⟩
    · rw [if_neg c3] at H
      exact absurd H (by simp)
  · rw [if_neg c2] at H
    exact absurd H (by simp)

end Go.Proofs.Ytepjegfhlglajaa.Q
