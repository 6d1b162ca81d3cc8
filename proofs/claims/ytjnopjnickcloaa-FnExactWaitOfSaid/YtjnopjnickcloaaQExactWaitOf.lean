/- Plain lemmas on what the printed functions compute (seat Ytjnopjnickcloaa, module QExactWaitOf). Conditions: each lemma's own. -/
import Derived.Test.YtjnopjnickcloaaQc
import Derived.Test.YtjnopjnickcloaaPA0
import Derived.Test.YtjnopjnickcloaaPA1
set_option linter.unusedVariables false
set_option linter.unusedSimpArgs false
namespace Go.Proofs.Ytjnopjnickcloaa.Q
open Go Go.RowKit Go.Proofs.Ytjnopjnickcloaa.PA Go.Proofs.YtjnopjnickcloaaW.PrintWords Go.Proofs.YtjnopjnickcloaaW.PrintLast

theorem q_FnExactWaitOf : laws_FnExactWaitOf.Pure := by
  intro a b _ _
  unfold laws_FnExactWaitOf.f
  rw [specWait_eq, implWait_eq]
  simp

end Go.Proofs.Ytjnopjnickcloaa.Q
