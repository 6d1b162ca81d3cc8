/- The plain law of FnLevelsBack: what the printed functions compute answers true, at every input. Conditions: none beyond the sizes and kinds that the row itself gives. -/
import Derived.Test.YtegkgandlpiobaaQLevelsBack
namespace Go.Proofs.Ytegkgandlpiobaa.Pure
open Go.Proofs.Ytegkgandlpiobaa.PA
theorem FnLevelsBack : laws_FnLevelsBack.Pure := Go.Proofs.Ytegkgandlpiobaa.Q.q_FnLevelsBack
end Go.Proofs.Ytegkgandlpiobaa.Pure
