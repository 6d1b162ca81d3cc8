/- The plain law of FnExactLevelsOf: what the printed functions compute answers true, at every input. Conditions: none beyond the sizes and kinds that the row itself gives. -/
import Derived.Test.YtegkgandlpiobaaQExactLevelsOf
namespace Go.Proofs.Ytegkgandlpiobaa.Pure
open Go.Proofs.Ytegkgandlpiobaa.PA
theorem FnExactLevelsOf : laws_FnExactLevelsOf.Pure := Go.Proofs.Ytegkgandlpiobaa.Q.q_FnExactLevelsOf
end Go.Proofs.Ytegkgandlpiobaa.Pure
