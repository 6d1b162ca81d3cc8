/- The plain law of FnShares: what the printed functions compute answers true, at every input. Conditions: none beyond the sizes and kinds that the row itself gives. -/
import Derived.Test.YtdokfpdnejkhcaaQShares
namespace Go.Proofs.Ytdokfpdnejkhcaa.Pure
open Go.Proofs.Ytdokfpdnejkhcaa.PA
theorem FnShares : laws_FnShares.Pure := Go.Proofs.Ytdokfpdnejkhcaa.Q.q_FnShares
end Go.Proofs.Ytdokfpdnejkhcaa.Pure
