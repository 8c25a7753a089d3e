/- The guard of the relex laws is true. -/
import Derived.Test.YtepjegfhlglajaaMQF24
namespace Go.Proofs.Ytepjegfhlglajaa.Q
open Go.RowKit Go.Proofs.YtepjegfhlglajaaW.PrintWords Go.Proofs.YtepjegfhlglajaaW.PrintLast Go.Proofs.YtepjegfhlglajaaW.PrintMore
set_option maxRecDepth 100000 in
theorem awake13_f : emendatelaw13_awake.f 4000 = some true := by decide +kernel
theorem awake13_ev : Ev (fun k => emendatelaw13_awake.f k) true := Ev.of emendatelaw13_awake.mono awake13_f
end Go.Proofs.Ytepjegfhlglajaa.Q
