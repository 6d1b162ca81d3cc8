/- The plain law of FnFlow: what the printed functions compute answers true, at every input. Conditions: none beyond the sizes and kinds that the row itself gives. -/
import Derived.Test.YtdokfpdnejkhcaaQFlow
namespace Go.Proofs.Ytdokfpdnejkhcaa.Pure
open Go.Proofs.Ytdokfpdnejkhcaa.PA
theorem FnFlow : laws_FnFlow.Pure := Go.Proofs.Ytdokfpdnejkhcaa.Q.q_FnFlow
end Go.Proofs.Ytdokfpdnejkhcaa.Pure
