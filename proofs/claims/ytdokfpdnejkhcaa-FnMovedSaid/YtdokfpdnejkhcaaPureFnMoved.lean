/- The plain law of FnMoved: what the printed functions compute answers true, at every input. Conditions: none beyond the sizes and kinds that the row itself gives. -/
import Derived.Test.YtdokfpdnejkhcaaQMoved
namespace Go.Proofs.Ytdokfpdnejkhcaa.Pure
open Go.Proofs.Ytdokfpdnejkhcaa.PA
theorem FnMoved : laws_FnMoved.Pure := Go.Proofs.Ytdokfpdnejkhcaa.Q.q_FnMoved
end Go.Proofs.Ytdokfpdnejkhcaa.Pure
