/- Plain lemmas on what the printed functions compute (seat Ytegkgandlpiobaa, module QExactTicksOf). Conditions: each lemma's own. -/
import Derived.Test.YtegkgandlpiobaaQTa
import Derived.Test.YtegkgandlpiobaaPA0
import Derived.Test.YtegkgandlpiobaaPA17
import Derived.Test.YtegkgandlpiobaaPA2
set_option linter.unusedVariables false
set_option linter.unusedSimpArgs false
namespace Go.Proofs.Ytegkgandlpiobaa.Q
open Go Go.RowKit Go.Proofs.Ytegkgandlpiobaa.PA Go.Proofs.YtegkgandlpiobaaW.PrintWords Go.Proofs.YtegkgandlpiobaaW.PrintLast

theorem q_FnExactTicksOf : laws_FnExactTicksOf.Pure := by
  intro l ws hl1 hl2 hb hw1 hw2 hwb
  refine Ev.rounds ?_
  simp only [laws_FnExactTicksOf.f]
  by_cases h0 : (l.length : Int) > 1048576
  · exact evT h0 (Ev.now _)
  by_cases h1 : (ws.length : Int) > 1048576
  · exact evF h0 (evT h1 (Ev.now _))
  have hl : l.length ≤ 1000000000000 := by omega
  have hw : ws.length ≤ 1000000000000 := by omega
  have hs := ticks_len l ws
  have hq : Ev (fun k => laws_eqIntS.f k (ticks l ws) (ticks l ws)) true := evE (eqIntS_ev _ _ (by omega)) (by simp)
  have hq2 : Ev (fun k => laws_eqIntS.f k l l) true := evE (eqIntS_ev _ _ (by omega)) (by simp)
  have hq3 : Ev (fun k => laws_eqIntS.f k ws ws) true := evE (eqIntS_ev _ _ (by omega)) (by simp)
  have hh := heldIntS_ev (ticks l ws).length 1 (by omega) (by omega)
  refine evF h0 (evF h1 (Ev.bind (toIntS_ev l hl) (Ev.bind (toIntS_ev ws hw) (Ev.bind (specTicks_ev l ws hl hw) (Ev.bind (toIntS_ev l hl) (Ev.bind (toIntS_ev ws hw) (Ev.bind (implTicks_ev l ws hl hw) (Ev.bind hq ?_))))))))
  refine evT rfl (Ev.bind (toIntS_ev l hl) (Ev.bind hq2 ?_))
  refine evT rfl (Ev.bind (toIntS_ev ws hw) (Ev.bind hq3 ?_))
  refine evT rfl (Ev.bind (markIntS_ev l 1 (by omega) (by omega)) (Ev.bind (markIntS_ev ws _ (by show (0 : Int) ≤ 1 + l.length; omega) (by show (1 : Int) + l.length + ws.length ≤ _; omega)) ?_))
  refine evF (show ¬ ((1 : Int) + l.length + ws.length < 0) by omega) (Ev.bind hq ?_)
  refine Ev.step (fun k => by rw [laws_FnExactTicksOf.j0]) ?_
  refine evF (by simp) (Ev.bind (markIntS_ev (ticks l ws) 1 (by omega) (by omega)) (Ev.bind hh ?_))
  refine evF (by omega) (evT rfl ?_)
  refine Ev.bind (toIntS_ev l hl) (Ev.bind (toIntS_ev ws hw) (Ev.bind (implTicks_ev l ws hl hw) (Ev.bind hq ?_)))
  refine evT rfl (Ev.bind hh ?_)
  exact evF (by omega) (evT rfl (Ev.now _))

end Go.Proofs.Ytegkgandlpiobaa.Q
