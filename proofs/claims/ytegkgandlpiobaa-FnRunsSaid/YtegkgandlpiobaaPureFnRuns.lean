/- The plain law of FnRuns: what the printed functions compute answers true, at every input. Conditions: none beyond the sizes and kinds that the row itself gives. -/
import Derived.Test.YtegkgandlpiobaaQRuns
namespace Go.Proofs.Ytegkgandlpiobaa.Pure
open Go.Proofs.Ytegkgandlpiobaa.PA
theorem FnRuns : laws_FnRuns.Pure := Go.Proofs.Ytegkgandlpiobaa.Q.q_FnRuns
end Go.Proofs.Ytegkgandlpiobaa.Pure
