/- The plain law of FnTicksSum: what the printed functions compute answers true, at every input. Conditions: none beyond the sizes and kinds that the row itself gives. -/
import Derived.Test.YtegkgandlpiobaaQTicksSum
namespace Go.Proofs.Ytegkgandlpiobaa.Pure
open Go.Proofs.Ytegkgandlpiobaa.PA
theorem FnTicksSum : laws_FnTicksSum.Pure := Go.Proofs.Ytegkgandlpiobaa.Q.q_FnTicksSum
end Go.Proofs.Ytegkgandlpiobaa.Pure
