/- Plain lemmas on what the printed functions compute (seat Ytjnopjnickcloaa, module QExactRunToken). Conditions: each lemma's own. -/
import Derived.Test.YtjnopjnickcloaaQu
import Derived.Test.YtjnopjnickcloaaPA0
import Derived.Test.YtjnopjnickcloaaPA18
import Derived.Test.YtjnopjnickcloaaPA19
import Derived.Test.YtjnopjnickcloaaPA4
set_option linter.unusedVariables false
set_option linter.unusedSimpArgs false
namespace Go.Proofs.Ytjnopjnickcloaa.Q
open Go Go.RowKit Go.Proofs.Ytjnopjnickcloaa.PA Go.Proofs.YtjnopjnickcloaaW.PrintWords Go.Proofs.YtjnopjnickcloaaW.PrintLast

theorem q_FnExactRunToken : laws_FnExactRunToken.Pure := by
  intro l hold s hl1 hl2 hb hh1 hs1
  refine Ev.rounds ?_
  simp only [laws_FnExactRunToken.f]
  by_cases h0 : (l.length : Int) > 1048576
  · exact evT h0 (Ev.now _)
  have hl : l.length ≤ 1000000000000 := by omega
  obtain ⟨ro, sl, dn, ok, hi, hsp, hlen, _⟩ := token_ev l hold s hl
  have hq : Ev (fun k => laws_eqIntS.f k ro ro) true := evE (eqIntS_ev _ _ (by omega)) (by simp)
  have hq2 : Ev (fun k => laws_eqIntS.f k l l) true := evE (eqIntS_ev _ _ (by omega)) (by simp)
  have hh := heldIntS_ev ro.length 1 (by omega) (by omega)
  have hE : Ev (fun k => laws_eqTalkRun.f k ro 0 sl dn ro 0 sl dn) true := by
    simp only [laws_eqTalkRun.f]
    refine Ev.bind hq ?_
    exact evT rfl (evT (by trivial) (evT (by trivial) (evF (by simp) (Ev.now _))))
  have hM : Ev (fun k => laws_markTalkRun.f k ro 0 sl dn 1) ((1 : Int) + ro.length, cnt 1 ro.length) := by
    simp only [laws_markTalkRun.f]
    exact Ev.bind (markIntS_ev ro 1 (by omega) (by omega)) (Ev.now _)
  have hH : Ev (fun k => laws_heldTalkRun.f k (cnt 1 ro.length) 0 sl dn 1) ((1 : Int) + ro.length) := by
    simp only [laws_heldTalkRun.f]
    refine Ev.bind hh ?_
    exact evF (by omega) (Ev.now _)
  refine evF h0 (Ev.bind (toIntS_ev l hl) (Ev.bind hsp (Ev.bind (toIntS_ev l hl) (Ev.bind hi (Ev.bind hE ?_)))))
  refine evT rfl ?_
  refine Ev.step (fun k => by rw [laws_FnExactRunToken.j0]) ?_
  refine evF (by simp) (Ev.bind (toIntS_ev l hl) (Ev.bind hq2 ?_))
  refine evT rfl (Ev.bind (markIntS_ev l 1 (by omega) (by omega)) ?_)
  refine evF (show ¬ ((1 : Int) + l.length < 0) by omega) (Ev.bind hE ?_)
  refine evT rfl ?_
  refine Ev.step (fun k => by rw [laws_FnExactRunToken.j1]) ?_
  refine evF (by simp) (Ev.bind hM (Ev.bind hH ?_))
  refine evF (show ¬ ((1 : Int) + ro.length < 0) by omega) (evT rfl ?_)
  refine Ev.bind (toIntS_ev l hl) (Ev.bind hi (Ev.bind hE ?_))
  refine evT rfl ?_
  refine Ev.step (fun k => by rw [laws_FnExactRunToken.j2]) ?_
  refine evF (by simp) (Ev.bind hH ?_)
  exact evF (show ¬ ((1 : Int) + ro.length < 0) by omega) (evT rfl (Ev.now _))

end Go.Proofs.Ytjnopjnickcloaa.Q
