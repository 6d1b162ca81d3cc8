/- The plain law of FnTalkOnce: what the printed functions compute answers true, at every input. Conditions: none beyond the sizes and kinds that the row itself gives. -/
import Derived.Test.YtnppflmjlnfhpaaQTalkOnce
namespace Go.Proofs.Ytnppflmjlnfhpaa.Pure
open Go.Proofs.Ytnppflmjlnfhpaa.PA
theorem FnTalkOnce : laws_FnTalkOnce.Pure := Go.Proofs.Ytnppflmjlnfhpaa.Q.q_FnTalkOnce
end Go.Proofs.Ytnppflmjlnfhpaa.Pure
