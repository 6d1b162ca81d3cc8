/- The plain law of FnClaims: what the printed functions compute answers true, at every input. Conditions: none beyond the sizes and kinds that the row itself gives. -/
import Derived.Test.YtegnghbgkiddoaaQClaims
namespace Go.Proofs.Ytegnghbgkiddoaa.Pure
open Go.Proofs.Ytegnghbgkiddoaa.PA
theorem FnClaims : laws_FnClaims.Pure := Go.Proofs.Ytegnghbgkiddoaa.Q.q_FnClaims
end Go.Proofs.Ytegnghbgkiddoaa.Pure
