/- The plain law of FnExactApartBound: what the printed functions compute answers true, at every input. Conditions: none beyond the sizes and kinds that the row itself gives. -/
import Derived.Test.YtecdngoknkmncaaQExactApartBound
namespace Go.Proofs.Ytecdngoknkmncaa.Pure
open Go.Proofs.Ytecdngoknkmncaa.PA
theorem FnExactApartBound : laws_FnExactApartBound.Pure := Go.Proofs.Ytecdngoknkmncaa.Q.q_FnExactApartBound
end Go.Proofs.Ytecdngoknkmncaa.Pure
