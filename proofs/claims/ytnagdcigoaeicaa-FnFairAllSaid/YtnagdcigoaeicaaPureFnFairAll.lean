/- The plain law of FnFairAll: what the printed functions compute answers true, at every input. Conditions: none beyond the sizes and kinds that the row itself gives. -/
import Derived.Test.YtnagdcigoaeicaaQFairAll
namespace Go.Proofs.Ytnagdcigoaeicaa.Pure
open Go.Proofs.Ytnagdcigoaeicaa.PA
theorem FnFairAll : laws_FnFairAll.Pure := Go.Proofs.Ytnagdcigoaeicaa.Q.q_FnFairAll
end Go.Proofs.Ytnagdcigoaeicaa.Pure
