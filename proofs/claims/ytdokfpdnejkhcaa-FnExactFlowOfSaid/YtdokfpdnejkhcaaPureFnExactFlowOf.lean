/- The plain law of FnExactFlowOf: what the printed functions compute answers true, at every input. Conditions: none beyond the sizes and kinds that the row itself gives. -/
import Derived.Test.YtdokfpdnejkhcaaQFlowOf
namespace Go.Proofs.Ytdokfpdnejkhcaa.Pure
open Go.Proofs.Ytdokfpdnejkhcaa.PA
theorem FnExactFlowOf : laws_FnExactFlowOf.Pure := Go.Proofs.Ytdokfpdnejkhcaa.Q.q_FnExactFlowOf
end Go.Proofs.Ytdokfpdnejkhcaa.Pure
