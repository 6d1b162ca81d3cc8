/- The plain law of FnTalkAlone: what the printed functions compute answers true, at every input. Conditions: none beyond the sizes and kinds that the row itself gives. -/
import Derived.Test.YtnppflmjlnfhpaaQTalkAlone
namespace Go.Proofs.Ytnppflmjlnfhpaa.Pure
open Go.Proofs.Ytnppflmjlnfhpaa.PA
theorem FnTalkAlone : laws_FnTalkAlone.Pure := Go.Proofs.Ytnppflmjlnfhpaa.Q.q_FnTalkAlone
end Go.Proofs.Ytnppflmjlnfhpaa.Pure
