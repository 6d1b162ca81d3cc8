/- The plain law of FnExactTalkValid: what the printed functions compute answers true, at every input. Conditions: none beyond the sizes and kinds that the row itself gives. -/
import Derived.Test.YtjnopjnickcloaaQExactTalkValid
namespace Go.Proofs.Ytjnopjnickcloaa.Pure
open Go.Proofs.Ytjnopjnickcloaa.PA
theorem FnExactTalkValid : laws_FnExactTalkValid.Pure := Go.Proofs.Ytjnopjnickcloaa.Q.q_FnExactTalkValid
end Go.Proofs.Ytjnopjnickcloaa.Pure
