/- Plain lemmas on what the printed functions compute (seat Ytegkgandlpiobaa, module QExactBitsFrom). Conditions: each lemma's own. -/
import Derived.Test.YtegkgandlpiobaaQg
import Derived.Test.YtegkgandlpiobaaPA0
import Derived.Test.YtegkgandlpiobaaPA10
import Derived.Test.YtegkgandlpiobaaPA2
set_option linter.unusedVariables false
set_option linter.unusedSimpArgs false
namespace Go.Proofs.Ytegkgandlpiobaa.Q
open Go Go.RowKit Go.Proofs.Ytegkgandlpiobaa.PA Go.Proofs.YtegkgandlpiobaaW.PrintWords Go.Proofs.YtegkgandlpiobaaW.PrintLast

theorem q_FnExactBitsFrom : laws_FnExactBitsFrom.Pure := by
  intro l hl1 hl2 hb
  refine Ev.rounds ?_
  simp only [laws_FnExactBitsFrom.f]
  by_cases h0 : (l.length : Int) > 1048576
  · exact evT h0 (Ev.now _)
  have hl : l.length ≤ 1000000000000 := by omega
  have hs := bits_len l
  have hi := implBits_eq l
  have hsp := specBits_ev l hl
  generalize bitsOf l = g at hs hi hsp
  obtain ⟨g0, g1⟩ := g
  replace hs : g0.length ≤ 200 := hs
  have hq : Ev (fun k => laws_eqIntS.f k g0 g0) true := evE (eqIntS_ev _ _ (by omega)) (by simp)
  have hq2 : Ev (fun k => laws_eqIntS.f k l l) true := evE (eqIntS_ev _ _ (by omega)) (by simp)
  have hh := heldIntS_ev g0.length 1 (by omega) (by omega)
  refine evF h0 (Ev.bind (toIntS_ev l hl) (Ev.bind hsp (Ev.bind (toIntS_ev l hl) (evS hi (Ev.bind hq ?_)))))
  refine evT rfl ?_
  refine Ev.step (fun k => by rw [laws_FnExactBitsFrom.j0]) ?_
  refine evF (by simp) (Ev.bind (toIntS_ev l hl) (Ev.bind hq2 ?_))
  refine evT rfl (Ev.bind (markIntS_ev l 1 (by omega) (by omega)) ?_)
  refine evF (show ¬ ((1 : Int) + l.length < 0) by omega) (Ev.bind hq ?_)
  refine evT rfl ?_
  refine Ev.step (fun k => by rw [laws_FnExactBitsFrom.j1]) ?_
  refine evF (by simp) (Ev.bind (markIntS_ev g0 1 (by omega) (by omega)) (Ev.bind hh ?_))
  refine evF (by omega) (evT rfl ?_)
  refine Ev.bind (toIntS_ev l hl) (evS hi (Ev.bind hq ?_))
  refine evT rfl ?_
  refine Ev.step (fun k => by rw [laws_FnExactBitsFrom.j2]) ?_
  refine evF (by simp) (Ev.bind hh ?_)
  exact evF (by omega) (evT rfl (Ev.now _))

end Go.Proofs.Ytegkgandlpiobaa.Q
