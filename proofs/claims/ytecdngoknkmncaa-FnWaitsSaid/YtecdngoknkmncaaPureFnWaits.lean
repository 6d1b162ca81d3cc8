/- The plain law of FnWaits: what the printed functions compute answers true, at every input. Conditions: none beyond the sizes and kinds that the row itself gives. -/
import Derived.Test.YtecdngoknkmncaaQWaits
namespace Go.Proofs.Ytecdngoknkmncaa.Pure
open Go.Proofs.Ytecdngoknkmncaa.PA
theorem FnWaits : laws_FnWaits.Pure := Go.Proofs.Ytecdngoknkmncaa.Q.q_FnWaits
end Go.Proofs.Ytecdngoknkmncaa.Pure
