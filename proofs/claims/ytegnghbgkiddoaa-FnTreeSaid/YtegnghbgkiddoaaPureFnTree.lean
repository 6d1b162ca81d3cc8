/- The plain law of FnTree: what the printed functions compute answers true, at every input. Conditions: none beyond the sizes and kinds that the row itself gives. -/
import Derived.Test.YtegnghbgkiddoaaQTree
namespace Go.Proofs.Ytegnghbgkiddoaa.Pure
open Go.Proofs.Ytegnghbgkiddoaa.PA
theorem FnTree : laws_FnTree.Pure := Go.Proofs.Ytegnghbgkiddoaa.Q.q_FnTree
end Go.Proofs.Ytegnghbgkiddoaa.Pure
