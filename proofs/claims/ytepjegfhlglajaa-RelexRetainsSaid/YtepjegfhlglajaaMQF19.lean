-- Written by a program of this session (wip/tools) over the translation; stand-ins' contracts are proved by hand.
import Derived.Test.YtepjegfhlglajaaMQ0
import Derived.Test.YtepjegfhlglajaaMQF37
namespace Go.Proofs.Ytepjegfhlglajaa.Q
open Go.RowKit Go.Proofs.YtepjegfhlglajaaW.PrintWords Go.Proofs.YtepjegfhlglajaaW.PrintLast Go.Proofs.YtepjegfhlglajaaW.PrintMore
attribute [local go_sem] max2_int min2_int max_two min_two max_three min_three max_four min_four   -- for this text's walks alone
set_option linter.unusedVariables false
set_option linter.unusedSimpArgs false
def lexer_Lex.l0 : Nat → ByteArray → List (S32) → Int → List Int → List (List Int) → List Int → Option ((List (S32)))
  | 0, _, _, _, _, _, _ => none
  | k + 1, x1, x5, x6, x115000, x115001, x115002 => if x6 < (x1.size : Int) then ((lexer_one.f k x115000 x115001 x115002 x1 x6).bind fun bt115 => (if x5.length < 3518437208883 then (lexer_Lex.l0 k x1 (x5 ++ [(⟨bt115.1, bt115.2.1, bt115.2.2.1, bt115.2.2.2⟩ : S32)]) (wrap64 (x6 + (bt115.2.2.1.size : Int))) x115000 x115001 x115002) else (none))) else (some x5)
def lexer_Lex.f (k : Nat) (l0_0 : List Int) (l0_1 : List (List Int)) (l0_2 : List Int) (a1 : ByteArray) : Option ((List (S32))) := lexer_Lex.l0 k a1 ([] : List (S32)) 0 l0_0 l0_1 l0_2
end Go.Proofs.Ytepjegfhlglajaa.Q
