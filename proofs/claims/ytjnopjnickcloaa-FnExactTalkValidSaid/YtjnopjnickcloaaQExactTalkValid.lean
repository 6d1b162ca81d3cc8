/- Plain lemmas on what the printed functions compute (seat Ytjnopjnickcloaa, module QExactTalkValid). Conditions: each lemma's own. -/
import Derived.Test.YtjnopjnickcloaaQc
import Derived.Test.YtjnopjnickcloaaPA0
import Derived.Test.YtjnopjnickcloaaPA4
import Derived.Test.YtjnopjnickcloaaPA5
set_option linter.unusedVariables false
set_option linter.unusedSimpArgs false
namespace Go.Proofs.Ytjnopjnickcloaa.Q
open Go Go.RowKit Go.Proofs.Ytjnopjnickcloaa.PA Go.Proofs.YtjnopjnickcloaaW.PrintWords Go.Proofs.YtjnopjnickcloaaW.PrintLast

theorem q_FnExactTalkValid : laws_FnExactTalkValid.Pure := by
  intro l hl1 hl2 hb
  refine Ev.rounds ?_
  simp only [laws_FnExactTalkValid.f]
  by_cases h0 : (l.length : Int) > 1048576
  · exact evT h0 (Ev.now _)
  have hl : l.length ≤ 1000000000000 := by omega
  refine evF h0 (Ev.bind (toIntS_ev l hl) (Ev.bind (specTalk_ev l hl) (Ev.bind (toIntS_ev l hl) (evS (implTalk_eq l) ?_))))
  refine evF (by simp) (Ev.bind (toIntS_ev l hl) (Ev.bind (evE (eqIntS_ev l l hl) (by simp) : Ev (fun k => laws_eqIntS.f k l l) true) ?_))
  exact evT rfl (Ev.now _)

end Go.Proofs.Ytjnopjnickcloaa.Q
