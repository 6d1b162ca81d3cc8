/- The plain law of FnStrict: what the printed functions compute answers true, at every input. Conditions: none beyond the sizes and kinds that the row itself gives. -/
import Derived.Test.YtnagdcigoaeicaaQStrict
namespace Go.Proofs.Ytnagdcigoaeicaa.Pure
open Go.Proofs.Ytnagdcigoaeicaa.PA
theorem FnStrict : laws_FnStrict.Pure := Go.Proofs.Ytnagdcigoaeicaa.Q.q_FnStrict
end Go.Proofs.Ytnagdcigoaeicaa.Pure
