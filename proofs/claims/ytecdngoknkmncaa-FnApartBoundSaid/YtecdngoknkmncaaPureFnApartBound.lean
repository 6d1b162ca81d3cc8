/- The plain law of FnApartBound: what the printed functions compute answers true, at every input. Conditions: none beyond the sizes and kinds that the row itself gives. -/
import Derived.Test.YtecdngoknkmncaaQApartBound
namespace Go.Proofs.Ytecdngoknkmncaa.Pure
open Go.Proofs.Ytecdngoknkmncaa.PA
theorem FnApartBound : laws_FnApartBound.Pure := Go.Proofs.Ytecdngoknkmncaa.Q.q_FnApartBound
end Go.Proofs.Ytecdngoknkmncaa.Pure
