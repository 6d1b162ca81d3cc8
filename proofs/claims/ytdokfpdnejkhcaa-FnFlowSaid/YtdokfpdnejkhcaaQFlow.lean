/- Plain lemmas on what the printed functions compute (seat Ytdokfpdnejkhcaa, module QFlow). Conditions: each lemma's own. -/
import Derived.Test.YtdokfpdnejkhcaaQd
import Derived.Test.YtdokfpdnejkhcaaPA0
import Derived.Test.YtdokfpdnejkhcaaPA3
set_option linter.unusedVariables false
set_option linter.unusedSimpArgs false
namespace Go.Proofs.Ytdokfpdnejkhcaa.Q
open Go Go.RowKit Go.Proofs.Ytdokfpdnejkhcaa.PA Go.Proofs.YtdokfpdnejkhcaaW.PrintWords Go.Proofs.YtdokfpdnejkhcaaW.PrintLast

theorem q_FnFlow : laws_FnFlow.Pure := by
  intro l hl1 hl2 hb
  refine Ev.rounds ?_
  simp only [laws_FnFlow.f]
  by_cases h0 : (l.length : Int) > 1048576
  · exact evT h0 (Ev.now _)
  obtain ⟨a, b, hd⟩ := drawFlow_ev l hb
  refine evF h0 (Ev.bind hd (evS (implFlow_eq a b) (evS ((flowOf_eq a b).trans (implFlow_eq a b)) (evT rfl ?_))))
  by_cases h : (0 ≤ a ∧ a ≤ 14) ∧ 0 ≤ b ∧ b ≤ 15
  · have e : flow a b = 15 * a + b % 15 := if_pos h
    rw [e]
    have e1 : wrap64 (Int.tdiv (15 * a + b % 15) 15) = a := by
      rw [Int.tdiv_eq_ediv_of_nonneg (by omega), w64 (by omega) (by omega)]; omega
    have e2 : Int.tmod (15 * a + b % 15) 15 = b % 15 := by
      rw [Int.tmod_eq_emod_of_nonneg (by omega)]; omega
    refine evF (by omega) (evT e1 ?_)
    rw [e2]
    by_cases h3 : b % 15 = b
    · exact evT h3 (evE (Ev.now _) (by simp; omega))
    · exact evF h3 (evT (by omega) (evE (Ev.now _) (by simp; omega)))
  · have e : flow a b = -1 := if_neg h
    rw [e]
    refine evT (by omega) (evS (((flowOf_eq a b).trans (implFlow_eq a b)).trans (by rw [e])) (evT rfl (Ev.now _)))

end Go.Proofs.Ytdokfpdnejkhcaa.Q
