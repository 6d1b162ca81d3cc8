/- The plain law of FnExactTicksOf: what the printed functions compute answers true, at every input. Conditions: none beyond the sizes and kinds that the row itself gives. -/
import Derived.Test.YtegkgandlpiobaaQExactTicksOf
namespace Go.Proofs.Ytegkgandlpiobaa.Pure
open Go.Proofs.Ytegkgandlpiobaa.PA
theorem FnExactTicksOf : laws_FnExactTicksOf.Pure := Go.Proofs.Ytegkgandlpiobaa.Q.q_FnExactTicksOf
end Go.Proofs.Ytegkgandlpiobaa.Pure
