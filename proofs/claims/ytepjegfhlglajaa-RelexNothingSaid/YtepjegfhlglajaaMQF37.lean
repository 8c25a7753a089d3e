-- Written by a program of this session (wip/tools) over the translation; stand-ins' contracts are proved by hand.
import Derived.Test.YtepjegfhlglajaaMQ0
namespace Go.Proofs.Ytepjegfhlglajaa.Q
open Go.RowKit Go.Proofs.YtepjegfhlglajaaW.PrintWords Go.Proofs.YtepjegfhlglajaaW.PrintLast Go.Proofs.YtepjegfhlglajaaW.PrintMore
attribute [local go_sem] max2_int min2_int max_two min_two max_three min_three max_four min_four   -- for this text's walks alone
set_option linter.unusedVariables false
set_option linter.unusedSimpArgs false
def lexer_one.l0 : Nat → ByteArray → Int → Int → Int → Int → Int → List Int → List (List Int) → List Int → Option (Int × Int × ByteArray × Int)
  | 0, _, _, _, _, _, _, _, _, _ => none
  | k + 1, s, i, st, look, kd, sz, cls, nxt, acc => if i + look = (s.size : Int) then (some (kd, i, s.extract (i : Int).toNat ((i + sz) : Int).toNat, look + 1)) else (if 0 ≤ st then (if st < (nxt.length : Int) then (if (bt s (i + look)) < (cls.length : Int) then (if 0 ≤ (rd cls (bt s (i + look))) then (if (rd cls (bt s (i + look))) < ((rd_L3 nxt st).length : Int) then (if (rd (rd_L3 nxt st) (rd cls (bt s (i + look)))) < 0 then (some (kd, i, s.extract (i : Int).toNat ((i + sz) : Int).toNat, look + 1)) else (if (rd (rd_L3 nxt st) (rd cls (bt s (i + look)))) < (acc.length : Int) then (if (rd acc (rd (rd_L3 nxt st) (rd cls (bt s (i + look))))) ≥ 0 then (lexer_one.l0 k s i (rd (rd_L3 nxt st) (rd cls (bt s (i + look)))) (look + 1) (rd acc (rd (rd_L3 nxt st) (rd cls (bt s (i + look))))) (look + 1) cls nxt acc) else (lexer_one.l0 k s i (rd (rd_L3 nxt st) (rd cls (bt s (i + look)))) (look + 1) kd sz cls nxt acc)) else (none))) else (none)) else (none)) else (none)) else (none)) else (none))
def lexer_one.f (k : Nat) (l0_0 : List Int) (l0_1 : List (List Int)) (l0_2 : List Int) (a1 : ByteArray) (a2 : Int) : Option (Int × Int × ByteArray × Int) := if 0 ≤ a2 then (if a2 < (a1.size : Int) then (if (a1.size : Int) ≤ 140737488355328 then (lexer_one.l0 k a1 a2 0 0 (-1) 1 l0_0 l0_1 l0_2) else none) else none) else none
theorem lexer_one.mono_l : ∀ k, (∀ y0 y1 y2 y3 y4 y5 y6 y7 y8, LeO (lexer_one.l0 k y0 y1 y2 y3 y4 y5 y6 y7 y8) (lexer_one.l0 (k + 1) y0 y1 y2 y3 y4 y5 y6 y7 y8))
  | 0 => fun _ _ _ _ _ _ _ _ _ r h => by simp [lexer_one.l0] at h
  | k + 1 => by
    have ih0 := lexer_one.mono_l k
    · intro y0 y1 y2 y3 y4 y5 y6 y7 y8
      unfold lexer_one.l0
      repeat' first
      | (with_reducible exact ih0 _ _ _ _ _ _ _ _ _)
      | (with_reducible exact LeO.refl _)
      | (with_reducible exact LeO.none _)
      | (with_reducible refine LeO.ite ?_ ?_)
theorem lexer_one.mono : ∀ a0 a1 a2 a3 a4 k, LeO (lexer_one.f k a0 a1 a2 a3 a4) (lexer_one.f (k + 1) a0 a1 a2 a3 a4) := by
  intro a0 a1 a2 a3 a4 k
  have ih0 := lexer_one.mono_l k
  unfold lexer_one.f
  repeat' first
      | (with_reducible exact ih0 _ _ _ _ _ _ _ _ _)
      | (with_reducible exact LeO.refl _)
      | (with_reducible exact LeO.none _)
      | (with_reducible refine LeO.ite ?_ ?_)
theorem lexer_one.res {W : World} {g : Nat} (x0 x1 : Int) (x2 : ByteArray) (x3 : Int) (h : W.heap[g]? = some (.cells #[.int .i64 0, .int .i64 0, .string (⟨#[]⟩ : ByteArray), .int .i64 0] 32 (0, 0))) : ((((W.setCell ⟨g, 0, none⟩ (.int .i64 x0)).setCell ⟨g, 1, none⟩ (.int .i64 x1)).setCell ⟨g, 2, none⟩ (.string x2)).setCell ⟨g, 3, none⟩ (.int .i64 x3)).heap[g]? = some (.cells #[.int .i64 x0, .int .i64 x1, .string x2, .int .i64 x3] 32 (0, 0)) :=
  blk_put (cs := #[.int .i64 x0, .int .i64 x1, .string x2, .int .i64 0]) (blk_put (cs := #[.int .i64 x0, .int .i64 x1, .string (⟨#[]⟩ : ByteArray), .int .i64 0]) (blk_put (cs := #[.int .i64 x0, .int .i64 0, .string (⟨#[]⟩ : ByteArray), .int .i64 0]) (blk_put (cs := #[.int .i64 0, .int .i64 0, .string (⟨#[]⟩ : ByteArray), .int .i64 0]) h 0 _ rfl) 1 _ rfl) 2 _ rfl) 3 _ rfl
end Go.Proofs.Ytepjegfhlglajaa.Q
