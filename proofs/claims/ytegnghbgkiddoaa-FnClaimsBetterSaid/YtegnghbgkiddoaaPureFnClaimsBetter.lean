/- The plain law of FnClaimsBetter: what the printed functions compute answers true, at every input. Conditions: none beyond the sizes and kinds that the row itself gives. -/
import Derived.Test.YtegnghbgkiddoaaQClaimsBetter
namespace Go.Proofs.Ytegnghbgkiddoaa.Pure
open Go.Proofs.Ytegnghbgkiddoaa.PA
theorem FnClaimsBetter : laws_FnClaimsBetter.Pure := Go.Proofs.Ytegnghbgkiddoaa.Q.q_FnClaimsBetter
end Go.Proofs.Ytegnghbgkiddoaa.Pure
