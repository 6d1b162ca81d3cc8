/- The plain law of FnExactRunsOf: what the printed functions compute answers true, at every input. Conditions: none beyond the sizes and kinds that the row itself gives. -/
import Derived.Test.YtegkgandlpiobaaQExactRunsOf
namespace Go.Proofs.Ytegkgandlpiobaa.Pure
open Go.Proofs.Ytegkgandlpiobaa.PA
theorem FnExactRunsOf : laws_FnExactRunsOf.Pure := Go.Proofs.Ytegkgandlpiobaa.Q.q_FnExactRunsOf
end Go.Proofs.Ytegkgandlpiobaa.Pure
