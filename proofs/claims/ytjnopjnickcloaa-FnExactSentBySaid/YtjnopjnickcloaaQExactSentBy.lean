/- Plain lemmas on what the printed functions compute (seat Ytjnopjnickcloaa, module QExactSentBy). Conditions: each lemma's own. -/
import Derived.Test.YtjnopjnickcloaaQc
import Derived.Test.YtjnopjnickcloaaPA0
import Derived.Test.YtjnopjnickcloaaPA4
import Derived.Test.YtjnopjnickcloaaPA7
set_option linter.unusedVariables false
set_option linter.unusedSimpArgs false
namespace Go.Proofs.Ytjnopjnickcloaa.Q
open Go Go.RowKit Go.Proofs.Ytjnopjnickcloaa.PA Go.Proofs.YtjnopjnickcloaaW.PrintWords Go.Proofs.YtjnopjnickcloaaW.PrintLast

theorem q_FnExactSentBy : laws_FnExactSentBy.Pure := by
  intro l n hl1 hl2 hb hn
  refine Ev.rounds ?_
  simp only [laws_FnExactSentBy.f]
  by_cases h0 : (l.length : Int) > 1048576
  · exact evT h0 (Ev.now _)
  have hl : l.length ≤ 1000000000000 := by omega
  have hs := sent_length l n
  have hq : Ev (fun k => laws_eqIntS.f k (sent l n) (sent l n)) true := evE (eqIntS_ev _ _ (by omega)) (by simp)
  have hq2 : Ev (fun k => laws_eqIntS.f k l l) true := evE (eqIntS_ev _ _ (by omega)) (by simp)
  have hh := heldIntS_ev (sent l n).length 1 (by omega) (by omega)
  refine evF h0 (Ev.bind (toIntS_ev l hl) (Ev.bind (specSent_ev l hl n) (Ev.bind (toIntS_ev l hl) (Ev.bind (implSent_ev l hl n) (Ev.bind hq ?_)))))
  refine evT rfl (Ev.bind (toIntS_ev l hl) (Ev.bind hq2 ?_))
  refine evT rfl (Ev.bind (markIntS_ev l 1 (by omega) (by omega)) ?_)
  refine evF (show ¬ ((1 : Int) + l.length < 0) by omega) (Ev.bind hq ?_)
  refine Ev.step (fun k => by rw [laws_FnExactSentBy.j0]) ?_
  refine evF (by simp) (Ev.bind (markIntS_ev (sent l n) 1 (by omega) (by omega)) (Ev.bind hh ?_))
  refine evF (by omega) (evT rfl ?_)
  refine Ev.bind (toIntS_ev l hl) (Ev.bind (implSent_ev l hl n) (Ev.bind hq ?_))
  refine evT rfl (Ev.bind hh ?_)
  exact evF (by omega) (evT rfl (Ev.now _))

end Go.Proofs.Ytjnopjnickcloaa.Q
