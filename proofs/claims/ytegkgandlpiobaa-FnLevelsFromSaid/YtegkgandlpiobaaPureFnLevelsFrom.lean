/- The plain law of FnLevelsFrom: what the printed functions compute answers true, at every input. Conditions: none beyond the sizes and kinds that the row itself gives. -/
import Derived.Test.YtegkgandlpiobaaQLevelsFrom
namespace Go.Proofs.Ytegkgandlpiobaa.Pure
open Go.Proofs.Ytegkgandlpiobaa.PA
theorem FnLevelsFrom : laws_FnLevelsFrom.Pure := Go.Proofs.Ytegkgandlpiobaa.Q.q_FnLevelsFrom
end Go.Proofs.Ytegkgandlpiobaa.Pure
