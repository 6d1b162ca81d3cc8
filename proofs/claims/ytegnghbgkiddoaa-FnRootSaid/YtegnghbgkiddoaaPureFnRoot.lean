/- The plain law of FnRoot: what the printed functions compute answers true, at every input. Conditions: none beyond the sizes and kinds that the row itself gives. -/
import Derived.Test.YtegnghbgkiddoaaQRoot
namespace Go.Proofs.Ytegnghbgkiddoaa.Pure
open Go.Proofs.Ytegnghbgkiddoaa.PA
theorem FnRoot : laws_FnRoot.Pure := Go.Proofs.Ytegnghbgkiddoaa.Q.q_FnRoot
end Go.Proofs.Ytegnghbgkiddoaa.Pure
