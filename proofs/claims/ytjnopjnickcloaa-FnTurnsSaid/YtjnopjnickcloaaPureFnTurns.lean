/- The plain law of FnTurns: what the printed functions compute answers true, at every input. Conditions: none beyond the sizes and kinds that the row itself gives. -/
import Derived.Test.YtjnopjnickcloaaQTurns
namespace Go.Proofs.Ytjnopjnickcloaa.Pure
open Go.Proofs.Ytjnopjnickcloaa.PA
theorem FnTurns : laws_FnTurns.Pure := Go.Proofs.Ytjnopjnickcloaa.Q.q_FnTurns
end Go.Proofs.Ytjnopjnickcloaa.Pure
