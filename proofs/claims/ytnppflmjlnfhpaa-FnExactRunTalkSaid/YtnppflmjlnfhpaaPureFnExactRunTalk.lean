/- The plain law of FnExactRunTalk: what the printed functions compute answers true, at every input. Conditions: none beyond the sizes and kinds that the row itself gives. -/
import Derived.Test.YtnppflmjlnfhpaaQExactRunTalk
namespace Go.Proofs.Ytnppflmjlnfhpaa.Pure
open Go.Proofs.Ytnppflmjlnfhpaa.PA
theorem FnExactRunTalk : laws_FnExactRunTalk.Pure := Go.Proofs.Ytnppflmjlnfhpaa.Q.q_FnExactRunTalk
end Go.Proofs.Ytnppflmjlnfhpaa.Pure
