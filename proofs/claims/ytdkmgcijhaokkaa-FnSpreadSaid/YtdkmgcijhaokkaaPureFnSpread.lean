/- The plain law of FnSpread: what the printed functions compute answers true, at every input. Conditions: none beyond the sizes and kinds that the row itself gives. -/
import Derived.Test.YtdkmgcijhaokkaaQSpread
namespace Go.Proofs.Ytdkmgcijhaokkaa.Pure
open Go.Proofs.Ytdkmgcijhaokkaa.PA
theorem FnSpread : laws_FnSpread.Pure := Go.Proofs.Ytdkmgcijhaokkaa.Q.q_FnSpread
end Go.Proofs.Ytdkmgcijhaokkaa.Pure
