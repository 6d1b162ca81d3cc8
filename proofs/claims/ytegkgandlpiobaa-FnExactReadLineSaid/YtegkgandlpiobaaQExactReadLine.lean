/- Plain lemmas on what the printed functions compute (seat Ytegkgandlpiobaa, module QExactReadLine). Conditions: each lemma's own. -/
import Derived.Test.YtegkgandlpiobaaQr
import Derived.Test.YtegkgandlpiobaaPA0
import Derived.Test.YtegkgandlpiobaaPA2
import Derived.Test.YtegkgandlpiobaaPA28
set_option linter.unusedVariables false
set_option linter.unusedSimpArgs false
namespace Go.Proofs.Ytegkgandlpiobaa.Q
open Go Go.RowKit Go.Proofs.Ytegkgandlpiobaa.PA Go.Proofs.YtegkgandlpiobaaW.PrintWords Go.Proofs.YtegkgandlpiobaaW.PrintLast

theorem q_FnExactReadLine : laws_FnExactReadLine.Pure := by
  intro l w hl1 hl2 hb hwf
  refine Ev.rounds ?_
  simp only [laws_FnExactReadLine.f]
  by_cases h0 : (l.length : Int) > 1048576
  · exact evT h0 (Ev.now _)
  have hl : l.length ≤ 1000000000000 := by omega
  have hs := readLine_len l w
  have hi := implRead_ev l hl w
  have hsp := specRead_ev l hl w
  generalize readLine l w = g at hs hi hsp
  obtain ⟨g0, g1⟩ := g
  replace hs : g0.length ≤ 200 := hs
  have hq : Ev (fun k => laws_eqIntS.f k g0 g0) true := evE (eqIntS_ev _ _ (by omega)) (by simp)
  have hq2 : Ev (fun k => laws_eqIntS.f k l l) true := evE (eqIntS_ev _ _ (by omega)) (by simp)
  have hh := heldIntS_ev g0.length 1 (by omega) (by omega)
  refine evF h0 (Ev.bind (toIntS_ev l hl) (Ev.bind hsp (Ev.bind (toIntS_ev l hl) (Ev.bind hi (Ev.bind hq ?_)))))
  refine evT rfl ?_
  refine Ev.step (fun k => by rw [laws_FnExactReadLine.j0]) ?_
  refine evF (by simp) (Ev.bind (toIntS_ev l hl) (Ev.bind hq2 ?_))
  refine evT rfl (Ev.bind (markIntS_ev l 1 (by omega) (by omega)) ?_)
  refine evF (show ¬ ((1 : Int) + l.length < 0) by omega) (Ev.bind hq ?_)
  refine evT rfl ?_
  refine Ev.step (fun k => by rw [laws_FnExactReadLine.j1]) ?_
  refine evF (by simp) (Ev.bind (markIntS_ev g0 1 (by omega) (by omega)) (Ev.bind hh ?_))
  refine evF (by omega) (evT rfl ?_)
  refine Ev.bind (toIntS_ev l hl) (Ev.bind hi (Ev.bind hq ?_))
  refine evT rfl ?_
  refine Ev.step (fun k => by rw [laws_FnExactReadLine.j2]) ?_
  refine evF (by simp) (Ev.bind hh ?_)
  exact evF (by omega) (evT rfl (Ev.now _))

end Go.Proofs.Ytegkgandlpiobaa.Q
