/- The plain law of FnCosts: what the printed functions compute answers true, at every input. Conditions: none beyond the sizes and kinds that the row itself gives. -/
import Derived.Test.YtegnghbgkiddoaaQCosts
namespace Go.Proofs.Ytegnghbgkiddoaa.Pure
open Go.Proofs.Ytegnghbgkiddoaa.PA
theorem FnCosts : laws_FnCosts.Pure := Go.Proofs.Ytegnghbgkiddoaa.Q.q_FnCosts
end Go.Proofs.Ytegnghbgkiddoaa.Pure
