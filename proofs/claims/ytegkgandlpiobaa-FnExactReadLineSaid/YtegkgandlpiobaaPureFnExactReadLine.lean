/- The plain law of FnExactReadLine: what the printed functions compute answers true, at every input. Conditions: none beyond the sizes and kinds that the row itself gives. -/
import Derived.Test.YtegkgandlpiobaaQExactReadLine
namespace Go.Proofs.Ytegkgandlpiobaa.Pure
open Go.Proofs.Ytegkgandlpiobaa.PA
theorem FnExactReadLine : laws_FnExactReadLine.Pure := Go.Proofs.Ytegkgandlpiobaa.Q.q_FnExactReadLine
end Go.Proofs.Ytegkgandlpiobaa.Pure
