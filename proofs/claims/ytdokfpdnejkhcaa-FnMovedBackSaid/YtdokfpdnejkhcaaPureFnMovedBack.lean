/- The plain law of FnMovedBack: what the printed functions compute answers true, at every input. Conditions: none beyond the sizes and kinds that the row itself gives. -/
import Derived.Test.YtdokfpdnejkhcaaQMovedBack
namespace Go.Proofs.Ytdokfpdnejkhcaa.Pure
open Go.Proofs.Ytdokfpdnejkhcaa.PA
theorem FnMovedBack : laws_FnMovedBack.Pure := Go.Proofs.Ytdokfpdnejkhcaa.Q.q_FnMovedBack
end Go.Proofs.Ytdokfpdnejkhcaa.Pure
