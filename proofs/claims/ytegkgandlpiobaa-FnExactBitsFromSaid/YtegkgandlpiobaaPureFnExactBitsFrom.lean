/- The plain law of FnExactBitsFrom: what the printed functions compute answers true, at every input. Conditions: none beyond the sizes and kinds that the row itself gives. -/
import Derived.Test.YtegkgandlpiobaaQExactBitsFrom
namespace Go.Proofs.Ytegkgandlpiobaa.Pure
open Go.Proofs.Ytegkgandlpiobaa.PA
theorem FnExactBitsFrom : laws_FnExactBitsFrom.Pure := Go.Proofs.Ytegkgandlpiobaa.Q.q_FnExactBitsFrom
end Go.Proofs.Ytegkgandlpiobaa.Pure
