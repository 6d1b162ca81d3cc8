/- The plain law of FnToken: what the printed functions compute answers true, at every input. Conditions: none beyond the sizes and kinds that the row itself gives. -/
import Derived.Test.YtjnopjnickcloaaQToken
namespace Go.Proofs.Ytjnopjnickcloaa.Pure
open Go.Proofs.Ytjnopjnickcloaa.PA
theorem FnToken : laws_FnToken.Pure := Go.Proofs.Ytjnopjnickcloaa.Q.q_FnToken
end Go.Proofs.Ytjnopjnickcloaa.Pure
