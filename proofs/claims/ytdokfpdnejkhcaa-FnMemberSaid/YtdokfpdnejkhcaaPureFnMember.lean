/- The plain law of FnMember: what the printed functions compute answers true, at every input. Conditions: none beyond the sizes and kinds that the row itself gives. -/
import Derived.Test.YtdokfpdnejkhcaaQMember
namespace Go.Proofs.Ytdokfpdnejkhcaa.Pure
open Go.Proofs.Ytdokfpdnejkhcaa.PA
theorem FnMember : laws_FnMember.Pure := Go.Proofs.Ytdokfpdnejkhcaa.Q.q_FnMember
end Go.Proofs.Ytdokfpdnejkhcaa.Pure
