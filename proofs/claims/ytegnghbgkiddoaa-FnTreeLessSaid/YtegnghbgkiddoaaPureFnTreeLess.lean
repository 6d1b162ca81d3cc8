/- The plain law of FnTreeLess: what the printed functions compute answers true, at every input. Conditions: none beyond the sizes and kinds that the row itself gives. -/
import Derived.Test.YtegnghbgkiddoaaQTreeLess
namespace Go.Proofs.Ytegnghbgkiddoaa.Pure
open Go.Proofs.Ytegnghbgkiddoaa.PA
theorem FnTreeLess : laws_FnTreeLess.Pure := Go.Proofs.Ytegnghbgkiddoaa.Q.q_FnTreeLess
end Go.Proofs.Ytegnghbgkiddoaa.Pure
