/- The plain law of FnBitsFrom: what the printed functions compute answers true, at every input. Conditions: none beyond the sizes and kinds that the row itself gives. -/
import Derived.Test.YtegkgandlpiobaaQBitsFrom
namespace Go.Proofs.Ytegkgandlpiobaa.Pure
open Go.Proofs.Ytegkgandlpiobaa.PA
theorem FnBitsFrom : laws_FnBitsFrom.Pure := Go.Proofs.Ytegkgandlpiobaa.Q.q_FnBitsFrom
end Go.Proofs.Ytegkgandlpiobaa.Pure
