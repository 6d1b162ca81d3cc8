/- The plain law of FnExactTurnsOf: what the printed functions compute answers true, at every input. Conditions: none beyond the sizes and kinds that the row itself gives. -/
import Derived.Test.YtjnopjnickcloaaQExactTurnsOf
namespace Go.Proofs.Ytjnopjnickcloaa.Pure
open Go.Proofs.Ytjnopjnickcloaa.PA
theorem FnExactTurnsOf : laws_FnExactTurnsOf.Pure := Go.Proofs.Ytjnopjnickcloaa.Q.q_FnExactTurnsOf
end Go.Proofs.Ytjnopjnickcloaa.Pure
