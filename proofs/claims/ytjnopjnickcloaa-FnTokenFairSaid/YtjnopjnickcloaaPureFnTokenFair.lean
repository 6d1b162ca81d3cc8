/- The plain law of FnTokenFair: what the printed functions compute answers true, at every input. Conditions: none beyond the sizes and kinds that the row itself gives. -/
import Derived.Test.YtjnopjnickcloaaQTokenFair
namespace Go.Proofs.Ytjnopjnickcloaa.Pure
open Go.Proofs.Ytjnopjnickcloaa.PA
theorem FnTokenFair : laws_FnTokenFair.Pure := Go.Proofs.Ytjnopjnickcloaa.Q.q_FnTokenFair
end Go.Proofs.Ytjnopjnickcloaa.Pure
