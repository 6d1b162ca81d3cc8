/- Plain lemmas on what the printed functions compute (seat Ytdokfpdnejkhcaa, module QExactSharesOf). Conditions: each lemma's own. -/
import Derived.Test.YtdokfpdnejkhcaaQf
import Derived.Test.YtdokfpdnejkhcaaPA0
import Derived.Test.YtdokfpdnejkhcaaPA13
import Derived.Test.YtdokfpdnejkhcaaPA14
set_option linter.unusedVariables false
set_option linter.unusedSimpArgs false
namespace Go.Proofs.Ytdokfpdnejkhcaa.Q
open Go Go.RowKit Go.Proofs.Ytdokfpdnejkhcaa.PA Go.Proofs.YtdokfpdnejkhcaaW.PrintWords Go.Proofs.YtdokfpdnejkhcaaW.PrintLast

theorem q_FnExactSharesOf (l : List Bool) (hm : l.length ≤ maxLen) : ∃ k, laws_FnExactSharesOf.f k l = some true := by
  refine Ev.rounds ?_
  simp only [laws_FnExactSharesOf.f]
  by_cases h0 : (l.length : Int) > 1048576
  · exact evT h0 (Ev.now _)
  have hl : l.length ≤ 1000000000000 := by omega
  have hsl : (shares l).length ≤ 8 := by
    rw [shares_length]
    split
    · rename_i h; exact h.2
    · omega
  have hq : Ev (fun k => laws_eqIntS.f k (shares l) (shares l)) true := evE (eqIntS_ev _ _ (by omega)) (by simp)
  obtain ⟨l', hk⟩ := markBoolS_ev l 1 (by omega) (by omega) (by omega)
  have hh := heldIntS_ev (shares l).length 1 (by omega) (by omega)
  refine evF h0 (Ev.bind (toBoolS_ev l hl) (Ev.bind (specShares_ev l) (Ev.bind (toBoolS_ev l hl) (Ev.bind (implShares_ev l) (Ev.bind hq ?_)))))
  refine evT rfl (Ev.bind (toBoolS_ev l hl) (Ev.bind (eqBoolS_ev l hl) ?_))
  refine evT rfl (Ev.bind hk ?_)
  refine evF (show ¬ ((1 : Int) + l.length < 0) by omega) (Ev.bind hq ?_)
  refine Ev.step (fun k => by rw [laws_FnExactSharesOf.j0]) ?_
  refine evF (by simp) (Ev.bind (markIntS_ev (shares l) 1 (by omega) (by omega)) (Ev.bind hh ?_))
  refine evF (by omega) (evT rfl ?_)
  refine Ev.bind (toBoolS_ev l hl) (Ev.bind (implShares_ev l) (Ev.bind hq ?_))
  refine evT rfl (Ev.bind hh ?_)
  exact evF (by omega) (evT rfl (Ev.now _))

end Go.Proofs.Ytdokfpdnejkhcaa.Q
