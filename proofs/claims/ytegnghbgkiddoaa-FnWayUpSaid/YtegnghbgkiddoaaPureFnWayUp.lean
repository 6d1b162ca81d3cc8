/- The plain law of FnWayUp: what the printed functions compute answers true, at every input. Conditions: none beyond the sizes and kinds that the row itself gives. -/
import Derived.Test.YtegnghbgkiddoaaQWayUp
namespace Go.Proofs.Ytegnghbgkiddoaa.Pure
open Go.Proofs.Ytegnghbgkiddoaa.PA
theorem FnWayUp : laws_FnWayUp.Pure := Go.Proofs.Ytegnghbgkiddoaa.Q.q_FnWayUp
end Go.Proofs.Ytegnghbgkiddoaa.Pure
