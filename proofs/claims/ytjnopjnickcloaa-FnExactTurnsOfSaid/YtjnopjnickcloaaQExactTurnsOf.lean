/- Plain lemmas on what the printed functions compute (seat Ytjnopjnickcloaa, module QExactTurnsOf). Conditions: each lemma's own. -/
import Derived.Test.YtjnopjnickcloaaQc
import Derived.Test.YtjnopjnickcloaaPA0
import Derived.Test.YtjnopjnickcloaaPA4
import Derived.Test.YtjnopjnickcloaaPA9
set_option linter.unusedVariables false
set_option linter.unusedSimpArgs false
namespace Go.Proofs.Ytjnopjnickcloaa.Q
open Go Go.RowKit Go.Proofs.Ytjnopjnickcloaa.PA Go.Proofs.YtjnopjnickcloaaW.PrintWords Go.Proofs.YtjnopjnickcloaaW.PrintLast

theorem q_FnExactTurnsOf : laws_FnExactTurnsOf.Pure := by
  intro l n hl1 hl2 hb hn
  refine Ev.rounds ?_
  simp only [laws_FnExactTurnsOf.f]
  by_cases h0 : (l.length : Int) > 1048576
  · exact evT h0 (Ev.now _)
  have hl : l.length ≤ 1000000000000 := by omega
  have hq2 : Ev (fun k => laws_eqIntS.f k l l) true := evE (eqIntS_ev _ _ (by omega)) (by simp)
  refine evF h0 (Ev.bind (toIntS_ev l hl) (Ev.bind (specTurns_ev l hl n) (Ev.bind (toIntS_ev l hl) (Ev.bind (implTurns_ev l n) ?_))))
  refine evT rfl (Ev.bind (toIntS_ev l hl) (Ev.bind hq2 ?_))
  exact evT rfl (Ev.now _)

end Go.Proofs.Ytjnopjnickcloaa.Q
