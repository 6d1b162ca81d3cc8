/- Plain lemmas on what the printed functions compute (seat Ytdokfpdnejkhcaa, module QFlowOf). Conditions: each lemma's own. -/
import Derived.Test.YtdokfpdnejkhcaaQb
import Derived.Test.YtdokfpdnejkhcaaPA0
import Derived.Test.YtdokfpdnejkhcaaPA1
set_option linter.unusedVariables false
set_option linter.unusedSimpArgs false
namespace Go.Proofs.Ytdokfpdnejkhcaa.Q
open Go Go.RowKit Go.Proofs.Ytdokfpdnejkhcaa.PA Go.Proofs.YtdokfpdnejkhcaaW.PrintWords Go.Proofs.YtdokfpdnejkhcaaW.PrintLast

/-! ### the laws -/
theorem q_FnExactFlowOf : laws_FnExactFlowOf.Pure := by
  intro a b _ _
  unfold laws_FnExactFlowOf.f
  rw [flowOf_eq, implFlow_eq]
  simp

end Go.Proofs.Ytdokfpdnejkhcaa.Q
