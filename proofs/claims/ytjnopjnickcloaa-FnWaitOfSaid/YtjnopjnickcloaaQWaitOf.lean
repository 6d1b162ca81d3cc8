/- Plain lemmas on what the printed functions compute (seat Ytjnopjnickcloaa, module QWaitOf). Conditions: each lemma's own. -/
import Derived.Test.YtjnopjnickcloaaQc
import Derived.Test.YtjnopjnickcloaaPA0
import Derived.Test.YtjnopjnickcloaaPA2
import Derived.Test.YtjnopjnickcloaaPA3
set_option linter.unusedVariables false
set_option linter.unusedSimpArgs false
namespace Go.Proofs.Ytjnopjnickcloaa.Q
open Go Go.RowKit Go.Proofs.Ytjnopjnickcloaa.PA Go.Proofs.YtjnopjnickcloaaW.PrintWords Go.Proofs.YtjnopjnickcloaaW.PrintLast

theorem drawWait_ev (l : List Int) (hb : ∀ x ∈ l, (Lit.int .u8 x).wf = true) : ∃ t d, Ev (fun k => spec_DrawWaitOf.f k l) (t, d) ∧ 0 ≤ t ∧ t ≤ 1000000 := by
  obtain ⟨b, ho, hl⟩ := open_ev l hb
  obtain ⟨v, hv, hm⟩ := num_ev b hl 0 ([1, 2, 3, 5, 9, 0, 1000000] : List Int) (by omega) (by omega) (by simp) (by simp)
  obtain ⟨v2, hv2, _⟩ := pick_ev b hl (0 + 1) 256 (by omega) (by omega) (by omega)
  obtain ⟨v3, hv3, _⟩ := num_ev b hl (0 + 1 + 1) ([0, 1, 7, 31, 1000, 1001, (-1), v2] : List Int) (by omega) (by omega) (by simp) (by simp)
  refine ⟨v, v3, ?_, ?_⟩
  · simp only [spec_DrawWaitOf.f]
    exact evS ho (Ev.bind hv (Ev.bind hv2 (Ev.bind hv3 (Ev.now _))))
  · simp at hm; omega
theorem shl_eq (t : Int) (h0 : 1 ≤ t) (h1 : t < 5) : shl .i64 1 t = pw t := by
  have hc : t = 1 ∨ t = 2 ∨ t = 3 ∨ t = 4 := by omega
  rcases hc with rfl | rfl | rfl | rfl <;> decide +kernel
theorem q_FnWaitOf : laws_FnWaitOf.Pure := by
  intro l hl1 hl2 hb
  refine Ev.rounds ?_
  simp only [laws_FnWaitOf.f]
  by_cases h0 : (l.length : Int) > 1048576
  · exact evT h0 (Ev.now _)
  obtain ⟨t, d, hd, ht0, ht1⟩ := drawWait_ev l hb
  refine evF h0 (Ev.bind hd (evS (implWait_eq t d) (evS (specWait_eq t d) (evT rfl ?_))))
  refine Ev.step (fun k => by rw [laws_FnWaitOf.j0]) ?_
  by_cases h : 1 ≤ t ∧ 0 ≤ d ∧ d ≤ 1000
  · have e : wait t d = d % pw t := if_pos h
    have hp := pw_pos t
    have hw : 0 ≤ d % pw t ∧ d % pw t < pw t := ⟨Int.emod_nonneg _ (by omega), Int.emod_lt_of_pos _ (by omega)⟩
    have hle : d % pw t ≤ d := by
      obtain ⟨n, rfl⟩ := Int.eq_ofNat_of_zero_le h.2.1
      obtain ⟨m, hm⟩ := Int.eq_ofNat_of_zero_le (show 0 ≤ pw t by omega)
      rw [hm]
      have := Nat.mod_le n m
      omega
    obtain ⟨e1, e2⟩ := pw_eq t h.1
    rw [e]
    refine evF (by simp; omega) ?_
    rw [show wrap64 (t + 1) = t + 1 from w64 (by omega) (by omega)]
    refine evS (implWait_eq (t + 1) d) ?_
    have e3 : wait (t + 1) d = d % pw (t + 1) := if_pos ⟨by omega, h.2⟩
    rw [e3]
    refine evT e1 (evF (by rw [e2]; omega) (evF (by omega) ?_))
    by_cases h5 : t ≥ 5
    · have e4 : pw (t + 1) = pw t := by
        unfold pw
        rw [if_neg (by omega), if_neg (by omega), if_neg (by omega), if_neg (by omega), if_neg (by omega), if_neg (by omega), if_neg (by omega), if_neg (by omega)]
      exact evT h5 (evT (by rw [e4]) (Ev.now _))
    · refine evF h5 (evT (by omega) (evT ht0 ?_))
      rw [shl_eq t h.1 (by omega)]
      refine evF (by omega) (evE (Ev.now _) ?_)
      have hp2 := pw_pos (t + 1)
      rw [Int.tmod_eq_emod_of_nonneg (Int.emod_nonneg _ (by omega))]
      have hc : t = 1 ∨ t = 2 ∨ t = 3 ∨ t = 4 := by omega
      have g1 : pw 1 = 2 := by decide
      have g2 : pw 2 = 4 := by decide
      have g3 : pw 3 = 8 := by decide
      have g4 : pw 4 = 16 := by decide
      have g5 : pw 5 = 32 := by decide
      rcases hc with rfl | rfl | rfl | rfl
      · rw [show (1 : Int) + 1 = 2 from rfl, g1, g2, beq_iff_eq]; omega
      · rw [show (2 : Int) + 1 = 3 from rfl, g2, g3, beq_iff_eq]; omega
      · rw [show (3 : Int) + 1 = 4 from rfl, g3, g4, beq_iff_eq]; omega
      · rw [show (4 : Int) + 1 = 5 from rfl, g4, g5, beq_iff_eq]; omega
  · have e : wait t d = -1 := if_neg h
    rw [e]
    refine evT (by decide) (evS ((specWait_eq t d).trans (by rw [e])) (evT rfl (Ev.now _)))

end Go.Proofs.Ytjnopjnickcloaa.Q
