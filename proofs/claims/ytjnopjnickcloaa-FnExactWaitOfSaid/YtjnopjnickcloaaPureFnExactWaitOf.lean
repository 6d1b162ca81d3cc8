/- The plain law of FnExactWaitOf: what the printed functions compute answers true, at every input. Conditions: none beyond the sizes and kinds that the row itself gives. -/
import Derived.Test.YtjnopjnickcloaaQExactWaitOf
namespace Go.Proofs.Ytjnopjnickcloaa.Pure
open Go.Proofs.Ytjnopjnickcloaa.PA
theorem FnExactWaitOf : laws_FnExactWaitOf.Pure := Go.Proofs.Ytjnopjnickcloaa.Q.q_FnExactWaitOf
end Go.Proofs.Ytjnopjnickcloaa.Pure
