/- The plain law of FnClockDrift: what the printed functions compute answers true, at every input. Conditions: none beyond the sizes and kinds that the row itself gives. -/
import Derived.Test.YtegkgandlpiobaaQClockDrift
namespace Go.Proofs.Ytegkgandlpiobaa.Pure
open Go.Proofs.Ytegkgandlpiobaa.PA
theorem FnClockDrift : laws_FnClockDrift.Pure := Go.Proofs.Ytegkgandlpiobaa.Q.q_FnClockDrift
end Go.Proofs.Ytegkgandlpiobaa.Pure
