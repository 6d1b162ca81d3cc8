/- The plain law of FnTalkLonger: what the printed functions compute answers true, at every input. Conditions: none beyond the sizes and kinds that the row itself gives. -/
import Derived.Test.YtnppflmjlnfhpaaQTalkLonger
namespace Go.Proofs.Ytnppflmjlnfhpaa.Pure
open Go.Proofs.Ytnppflmjlnfhpaa.PA
theorem FnTalkLonger : laws_FnTalkLonger.Pure := Go.Proofs.Ytnppflmjlnfhpaa.Q.q_FnTalkLonger
end Go.Proofs.Ytnppflmjlnfhpaa.Pure
