/- Plain lemmas on what the printed functions compute (seat Ytdokfpdnejkhcaa, module QScoreOf). Conditions: each lemma's own. -/
import Derived.Test.YtdokfpdnejkhcaaQb
import Derived.Test.YtdokfpdnejkhcaaPA0
import Derived.Test.YtdokfpdnejkhcaaPA1
set_option linter.unusedVariables false
set_option linter.unusedSimpArgs false
namespace Go.Proofs.Ytdokfpdnejkhcaa.Q
open Go Go.RowKit Go.Proofs.Ytdokfpdnejkhcaa.PA Go.Proofs.YtdokfpdnejkhcaaW.PrintWords Go.Proofs.YtdokfpdnejkhcaaW.PrintLast

theorem q_FnExactScoreOf : laws_FnExactScoreOf.Pure := by
  intro a b _ _
  unfold laws_FnExactScoreOf.f
  rw [specScoreOf_eq]
  by_cases h : isFl a ∧ 0 ≤ b ∧ b ≤ 7
  · rw [implScore_eq a b h.1 h.2.1 h.2.2]; simp
  · rw [implScore_none a b h]; simp

end Go.Proofs.Ytdokfpdnejkhcaa.Q
