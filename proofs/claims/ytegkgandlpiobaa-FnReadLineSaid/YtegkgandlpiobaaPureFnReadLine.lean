/- The plain law of FnReadLine: what the printed functions compute answers true, at every input. Conditions: none beyond the sizes and kinds that the row itself gives. -/
import Derived.Test.YtegkgandlpiobaaQReadLine
namespace Go.Proofs.Ytegkgandlpiobaa.Pure
open Go.Proofs.Ytegkgandlpiobaa.PA
theorem FnReadLine : laws_FnReadLine.Pure := Go.Proofs.Ytegkgandlpiobaa.Q.q_FnReadLine
end Go.Proofs.Ytegkgandlpiobaa.Pure
