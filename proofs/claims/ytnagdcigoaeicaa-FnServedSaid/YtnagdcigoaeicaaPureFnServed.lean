/- The plain law of FnServed: what the printed functions compute answers true, at every input. Conditions: none beyond the sizes and kinds that the row itself gives. -/
import Derived.Test.YtnagdcigoaeicaaQServed
namespace Go.Proofs.Ytnagdcigoaeicaa.Pure
open Go.Proofs.Ytnagdcigoaeicaa.PA
theorem FnServed : laws_FnServed.Pure := Go.Proofs.Ytnagdcigoaeicaa.Q.q_FnServed
end Go.Proofs.Ytnagdcigoaeicaa.Pure
