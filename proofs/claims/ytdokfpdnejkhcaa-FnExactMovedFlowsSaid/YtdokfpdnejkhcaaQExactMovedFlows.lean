/- Plain lemmas on what the printed functions compute (seat Ytdokfpdnejkhcaa, module QExactMovedFlows). Conditions: each lemma's own. -/
import Derived.Test.YtdokfpdnejkhcaaQf
import Derived.Test.YtdokfpdnejkhcaaPA0
import Derived.Test.YtdokfpdnejkhcaaPA7
set_option linter.unusedVariables false
set_option linter.unusedSimpArgs false
namespace Go.Proofs.Ytdokfpdnejkhcaa.Q
open Go Go.RowKit Go.Proofs.Ytdokfpdnejkhcaa.PA Go.Proofs.YtdokfpdnejkhcaaW.PrintWords Go.Proofs.YtdokfpdnejkhcaaW.PrintLast

theorem q_FnExactMovedFlows (a : List Bool) (hm : a.length ≤ maxLen) (b : List Bool) (hm2 : b.length ≤ maxLen) : ∃ k, laws_FnExactMovedFlows.f k a b = some true := by
  refine Ev.rounds ?_
  simp only [laws_FnExactMovedFlows.f]
  by_cases h0 : (a.length : Int) > 1048576
  · exact evT h0 (Ev.now _)
  by_cases h1 : (b.length : Int) > 1048576
  · exact evF h0 (evT h1 (Ev.now _))
  have ha : a.length ≤ 1000000000000 := by omega
  have hb : b.length ≤ 1000000000000 := by omega
  refine evF h0 (evF h1 (Ev.bind (toBoolS_ev a ha) (Ev.bind (toBoolS_ev b hb) (Ev.bind (specMoved_ev a b) (Ev.bind (toBoolS_ev a ha) (Ev.bind (toBoolS_ev b hb) (Ev.bind (implMoved_ev a b) ?_)))))))
  refine evT rfl (Ev.bind (toBoolS_ev a ha) (Ev.bind (eqBoolS_ev a ha) ?_))
  refine evT rfl (Ev.bind (toBoolS_ev b hb) (Ev.bind (eqBoolS_ev b hb) ?_))
  exact evT rfl (Ev.now _)

end Go.Proofs.Ytdokfpdnejkhcaa.Q
