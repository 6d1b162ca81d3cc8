/- Plain lemmas on what the printed functions compute (seat Ytecdngoknkmncaa, module Qb). Conditions: each lemma's own. -/
import Derived.Test.YtecdngoknkmncaaQa
import Derived.Test.YtecdngoknkmncaaPA0
import Derived.Test.YtecdngoknkmncaaPA5
set_option linter.unusedVariables false
set_option linter.unusedSimpArgs false
namespace Go.Proofs.Ytecdngoknkmncaa.Q
open Go Go.RowKit Go.Proofs.Ytecdngoknkmncaa.PA Go.Proofs.YtecdngoknkmncaaW.PrintWords Go.Proofs.YtecdngoknkmncaaW.PrintLast

/-! ### how far apart two turns lie -/
def apartV (l : List Int) (a b : Int) : Int := wrap64 ((wrap64 ((wrap64 (9 * (rd l a))) * (rd l b))) + (wrap64 (8 * (rd l a))))
def apart (l : List Int) (a b : Int) : Int := if wok l = true ∧ (0 ≤ a ∧ a ≤ (l.length : Int) - 1) ∧ (0 ≤ b ∧ b ≤ (l.length : Int) - 1) then apartV l a b else -1
theorem apart_yes {l : List Int} {a b : Int} (h : wok l = true ∧ (0 ≤ a ∧ a ≤ (l.length : Int) - 1) ∧ (0 ≤ b ∧ b ≤ (l.length : Int) - 1)) : apart l a b = apartV l a b := by unfold apart; rw [if_pos h]
theorem apart_no {l : List Int} {a b : Int} (h : ¬ (wok l = true ∧ (0 ≤ a ∧ a ≤ (l.length : Int) - 1) ∧ (0 ≤ b ∧ b ≤ (l.length : Int) - 1))) : apart l a b = -1 := by unfold apart; rw [if_neg h]
theorem implApart_eq (l : List Int) (a b : Int) : impl_ApartBound.f l a b = some (apart l a b) := by
  unfold impl_ApartBound.f
  rw [implWeights_eq, Option.bind_some]
  by_cases h : wok l = true
  · obtain ⟨h1, h2, _⟩ := wok_elim h
    rw [if_pos h, within_eq, Option.bind_some, w64 (x := (l.length : Int) - 1) (by omega) (by omega)]
    by_cases ha : 0 ≤ a ∧ a ≤ (l.length : Int) - 1
    · rw [if_pos (decide_eq_true ha), within_eq, Option.bind_some]
      by_cases hb : 0 ≤ b ∧ b ≤ (l.length : Int) - 1
      · rw [if_pos (decide_eq_true hb), if_pos ha.1, if_pos (by omega), if_pos hb.1, if_pos (by omega), apart_yes ⟨h, ha, hb⟩]
        rfl
      · rw [if_neg (by simp only [decide_eq_true_eq]; exact hb), apart_no (fun c => hb c.2.2)]
    · rw [if_neg (by simp only [decide_eq_true_eq]; exact ha), apart_no (fun c => ha c.2.1)]
  · rw [if_neg h, apart_no (fun c => h c.1)]
theorem specApart_ev (l : List Int) (hl : l.length ≤ 1000000000000) (a b : Int) : Ev (fun k => spec_ApartBound.f k l a b) (apart l a b) := by
  simp only [spec_ApartBound.f]
  refine Ev.bind (specWeights_ev l hl) ?_
  by_cases h : wok l = true
  · obtain ⟨h1, h2, _⟩ := wok_elim h
    refine evT h (evS (l1In_eq _ _ _) ?_)
    rw [w64 (x := (l.length : Int) - 1) (by omega) (by omega)]
    by_cases ha : 0 ≤ a ∧ a ≤ (l.length : Int) - 1
    · refine evT (decide_eq_true ha) (evS (l1In_eq _ _ _) ?_)
      by_cases hb : 0 ≤ b ∧ b ≤ (l.length : Int) - 1
      · rw [apart_yes ⟨h, ha, hb⟩]
        exact evT (decide_eq_true hb) (evT ha.1 (evT (by omega) (evT hb.1 (evT (by omega) (Ev.now _)))))
      · rw [apart_no (fun c => hb c.2.2)]
        exact evF (by simp only [decide_eq_true_eq]; exact hb) (Ev.now _)
    · rw [apart_no (fun c => ha c.2.1)]
      exact evF (by simp only [decide_eq_true_eq]; exact ha) (Ev.now _)
  · rw [apart_no (fun c => h c.1)]
    exact evF h (Ev.now _)

end Go.Proofs.Ytecdngoknkmncaa.Q
