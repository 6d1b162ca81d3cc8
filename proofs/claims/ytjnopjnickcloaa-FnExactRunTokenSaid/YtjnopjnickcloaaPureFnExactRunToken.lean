/- The plain law of FnExactRunToken: what the printed functions compute answers true, at every input. Conditions: none beyond the sizes and kinds that the row itself gives. -/
import Derived.Test.YtjnopjnickcloaaQExactRunToken
namespace Go.Proofs.Ytjnopjnickcloaa.Pure
open Go.Proofs.Ytjnopjnickcloaa.PA
theorem FnExactRunToken : laws_FnExactRunToken.Pure := Go.Proofs.Ytjnopjnickcloaa.Q.q_FnExactRunToken
end Go.Proofs.Ytjnopjnickcloaa.Pure
