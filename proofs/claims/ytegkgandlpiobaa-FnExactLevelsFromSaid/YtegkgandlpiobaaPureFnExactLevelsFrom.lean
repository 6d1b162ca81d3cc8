/- The plain law of FnExactLevelsFrom: what the printed functions compute answers true, at every input. Conditions: none beyond the sizes and kinds that the row itself gives. -/
import Derived.Test.YtegkgandlpiobaaQExactLevelsFrom
namespace Go.Proofs.Ytegkgandlpiobaa.Pure
open Go.Proofs.Ytegkgandlpiobaa.PA
theorem FnExactLevelsFrom : laws_FnExactLevelsFrom.Pure := Go.Proofs.Ytegkgandlpiobaa.Q.q_FnExactLevelsFrom
end Go.Proofs.Ytegkgandlpiobaa.Pure
