/- The plain law of FnNextClaims: what the printed functions compute answers true, at every input. Conditions: none beyond the sizes and kinds that the row itself gives. -/
import Derived.Test.YtegnghbgkiddoaaQNextClaims
namespace Go.Proofs.Ytegnghbgkiddoaa.Pure
open Go.Proofs.Ytegnghbgkiddoaa.PA
theorem FnNextClaims : laws_FnNextClaims.Pure := Go.Proofs.Ytegnghbgkiddoaa.Q.q_FnNextClaims
end Go.Proofs.Ytegnghbgkiddoaa.Pure
