/- Plain lemmas on what the printed functions compute (seat Ytdokfpdnejkhcaa, module QExactMemberFor). Conditions: each lemma's own. -/
import Derived.Test.YtdokfpdnejkhcaaQf
import Derived.Test.YtdokfpdnejkhcaaPA0
import Derived.Test.YtdokfpdnejkhcaaPA6
set_option linter.unusedVariables false
set_option linter.unusedSimpArgs false
namespace Go.Proofs.Ytdokfpdnejkhcaa.Q
open Go Go.RowKit Go.Proofs.Ytdokfpdnejkhcaa.PA Go.Proofs.YtdokfpdnejkhcaaW.PrintWords Go.Proofs.YtdokfpdnejkhcaaW.PrintLast

theorem q_FnExactMemberFor (l : List Bool) (hm : l.length ≤ maxLen) (f : Int) (hf : (Lit.int .i64 f).wf = true) : ∃ k, laws_FnExactMemberFor.f k l f = some true := by
  refine Ev.rounds ?_
  simp only [laws_FnExactMemberFor.f]
  by_cases h0 : (l.length : Int) > 1048576
  · exact evT h0 (Ev.now _)
  have hl : l.length ≤ 1000000000000 := by omega
  refine evF h0 (Ev.bind (toBoolS_ev l hl) (Ev.bind (specMember_ev l f) (Ev.bind (toBoolS_ev l hl) (Ev.bind (implMember_ev l f) ?_))))
  refine evT rfl (Ev.bind (toBoolS_ev l hl) (Ev.bind (eqBoolS_ev l hl) ?_))
  exact evT rfl (Ev.now _)

end Go.Proofs.Ytdokfpdnejkhcaa.Q
