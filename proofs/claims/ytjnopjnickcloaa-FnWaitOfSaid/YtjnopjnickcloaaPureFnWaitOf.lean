/- The plain law of FnWaitOf: what the printed functions compute answers true, at every input. Conditions: none beyond the sizes and kinds that the row itself gives. -/
import Derived.Test.YtjnopjnickcloaaQWaitOf
namespace Go.Proofs.Ytjnopjnickcloaa.Pure
open Go.Proofs.Ytjnopjnickcloaa.PA
theorem FnWaitOf : laws_FnWaitOf.Pure := Go.Proofs.Ytjnopjnickcloaa.Q.q_FnWaitOf
end Go.Proofs.Ytjnopjnickcloaa.Pure
