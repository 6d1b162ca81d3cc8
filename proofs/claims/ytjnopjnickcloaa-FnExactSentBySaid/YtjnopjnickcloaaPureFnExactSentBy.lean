/- The plain law of FnExactSentBy: what the printed functions compute answers true, at every input. Conditions: none beyond the sizes and kinds that the row itself gives. -/
import Derived.Test.YtjnopjnickcloaaQExactSentBy
namespace Go.Proofs.Ytjnopjnickcloaa.Pure
open Go.Proofs.Ytjnopjnickcloaa.PA
theorem FnExactSentBy : laws_FnExactSentBy.Pure := Go.Proofs.Ytjnopjnickcloaa.Q.q_FnExactSentBy
end Go.Proofs.Ytjnopjnickcloaa.Pure
