/- The plain law of FnExactScoreOf: what the printed functions compute answers true, at every input. Conditions: none beyond the sizes and kinds that the row itself gives. -/
import Derived.Test.YtdokfpdnejkhcaaQScoreOf
namespace Go.Proofs.Ytdokfpdnejkhcaa.Pure
open Go.Proofs.Ytdokfpdnejkhcaa.PA
theorem FnExactScoreOf : laws_FnExactScoreOf.Pure := Go.Proofs.Ytdokfpdnejkhcaa.Q.q_FnExactScoreOf
end Go.Proofs.Ytdokfpdnejkhcaa.Pure
