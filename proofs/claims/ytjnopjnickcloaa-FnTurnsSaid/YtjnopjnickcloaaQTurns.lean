/- Plain lemmas on what the printed functions compute (seat Ytjnopjnickcloaa, module QTurns). Conditions: each lemma's own. -/
import Derived.Test.YtjnopjnickcloaaQd
import Derived.Test.YtjnopjnickcloaaPA0
import Derived.Test.YtjnopjnickcloaaPA14
import Derived.Test.YtjnopjnickcloaaPA16
import Derived.Test.YtjnopjnickcloaaPA17
set_option linter.unusedVariables false
set_option linter.unusedSimpArgs false
namespace Go.Proofs.Ytjnopjnickcloaa.Q
open Go Go.RowKit Go.Proofs.Ytjnopjnickcloaa.PA Go.Proofs.YtjnopjnickcloaaW.PrintWords Go.Proofs.YtjnopjnickcloaaW.PrintLast

theorem fnTurns_l0 (l : List Int) (hl : l.length ≤ 6) (hold n A B : Int) (hA : wrap64 (n * hold) = A) (hB : wrap64 ((wrap64 (n - 1)) * hold) = B) (h : ∀ x ∈ l, x ≤ A) : ∀ (d i : Nat) (less : Bool), i + d = l.length →
    Ev (fun k => laws_FnTurns.l0 k hold n true less l (l.length : Int) (i : Int)) (less || (l.drop i).any (fun q => decide (q > B))) := by
  intro d
  induction d with
  | zero =>
    intro i less hi
    refine Ev.step (fun k => by rw [laws_FnTurns.l0]) ?_
    refine evF (by omega) (evT rfl (evE (Ev.now _) ?_))
    rw [List.drop_of_length_le (by omega)]
    simp
  | succ d ih =>
    intro i less hi
    have ha : l.drop i = l[i]'(by omega) :: l.drop (i + 1) := List.drop_eq_getElem_cons (by omega)
    have e : wrap64 ((i : Int) + 1) = ((i + 1 : Nat) : Int) := by rw [w64 (by omega) (by omega)]; omega
    have hx := h (l[i]'(by omega)) (List.getElem_mem _)
    have i1 : (i : Int) < (l.length : Int) := by omega
    have i0 : (0 : Int) ≤ (i : Int) := by omega
    have hxd : decide (l[i]'(by omega) ≤ A) = true := decide_eq_true hx
    refine Ev.step (fun k => by rw [laws_FnTurns.l0]) ?_
    refine evT i1 (evT i0 (evT i1 (evT rfl ?_)))
    rw [rd_at l i (by omega), e, hA, hB, ha, hxd, List.any_cons]
    cases less with
    | true => exact evT rfl (evE (ih (i + 1) true (by omega)) (by simp))
    | false => exact evF (by simp) (evE (ih (i + 1) _ (by omega)) (by simp))
theorem q_FnTurns : laws_FnTurns.Pure := by
  intro l m hl1 hl2 hb hm1 hm2 hmb
  refine Ev.rounds ?_
  simp only [laws_FnTurns.f]
  have out : Ev (fun k => laws_FnTurns.j0 k l m true) true := by
    refine Ev.step (fun k => by rw [laws_FnTurns.j0]) ?_
    exact evT rfl (Ev.now _)
  by_cases h0 : (l.length : Int) > 1048576
  · exact evT h0 out
  refine evF h0 ?_
  by_cases h1 : (m.length : Int) > 1048576
  · rw [decide_eq_true h1]; exact out
  rw [decide_eq_false h1]
  obtain ⟨qs, hold, slots, hd, k1, k2, a1, a2, a3, a4⟩ := drawToken_ev l hb
  obtain ⟨xs, n, hs, k3⟩ := drawSent_ev m hmb
  have hd2 : Ev (fun k => spec_DrawTurnsOf.f k l) (qs, hold) := by
    simp only [spec_DrawTurnsOf.f]
    exact Ev.bind hd (Ev.now _)
  have hsl := sent_length xs n
  have hq : Ev (fun k => laws_wnInts.f k (sent xs n) (sent xs n)) true := evE (wnInts_ev _ _ (by omega)) (by simp)
  have hi := implTurns_ev qs hold
  have hsp := specTurns_ev qs (by omega) hold
  have his := implSent_ev xs (by omega) n
  have hss := specSent_ev xs (by omega) n
  refine Ev.step (fun k => by rw [laws_FnTurns.j0]) ?_
  refine evF (by simp) (Ev.bind hd2 (Ev.bind hi (Ev.bind hs (Ev.bind hsp ?_))))
  refine evT rfl (Ev.bind his (Ev.bind hss (Ev.bind hq ?_)))
  refine evT rfl (Ev.step (fun k => by rw [laws_FnTurns.j1]) ?_)
  by_cases hc : tv qs = true ∧ 1 ≤ hold ∧ hold ≤ 9
  · have ht : turns qs hold = (mostFrom qs 0 + hold - 1) / hold := if_pos hc
    obtain ⟨hl6, hv⟩ := tv_elim qs hc.1
    have hvm : ∀ x ∈ qs, 0 ≤ x ∧ x ≤ 9 := fun x hx => by
      obtain ⟨i, hi', rfl⟩ := List.getElem_of_mem hx
      exact hv i hi'
    have hbd := mostFrom_bd qs hvm 0 (by omega) (by omega)
    have hge := (mostFrom_ge qs 0).2
    have hhit := mostFrom_hit qs 0
    rw [ht]
    generalize mostFrom qs 0 = M at hbd hge hhit
    have hn0 : 0 ≤ (M + hold - 1) / hold := Int.ediv_nonneg (by omega) (by omega)
    have hn1 : (M + hold - 1) / hold * hold ≤ M + hold - 1 := Int.ediv_mul_le _ (by omega)
    have hn2 : M + hold - 1 < ((M + hold - 1) / hold + 1) * hold := Int.lt_ediv_add_one_mul_self _ (by omega)
    have hn3 : (M + hold - 1) / hold ≤ M + hold - 1 := Int.ediv_le_self _ (by omega)
    have hz : M = 0 → (M + hold - 1) / hold = 0 := fun h => by
      rw [h]; exact Int.ediv_eq_zero_of_lt (by omega) (by omega)
    generalize (M + hold - 1) / hold = t at hn0 hn1 hn2 hn3 hz
    rw [Int.add_mul, Int.one_mul] at hn2
    have hA : wrap64 (t * hold) = t * hold := by
      generalize t * hold = P at hn1 hn2
      exact w64 (by omega) (by omega)
    have hB : wrap64 ((wrap64 (t - 1)) * hold) = t * hold - hold := by
      rw [w64 (x := t - 1) (by omega) (by omega), Int.sub_mul, Int.one_mul]
      generalize t * hold = P at hn1 hn2
      exact w64 (by omega) (by omega)
    refine evF (by simp; omega) ?_
    refine evE (fnTurns_l0 qs hl6 hold t _ _ hA hB (fun x hx => by
      have := hge x hx
      generalize t * hold = P at hn1 hn2
      show x ≤ P
      omega) qs.length 0 (t == 0) (by omega)) ?_
    rcases hhit with h | h
    · rw [hz h]; simp
    · rw [Bool.or_eq_true]
      refine .inr (List.any_eq_true.2 ⟨M, by simpa using h, decide_eq_true ?_⟩)
      generalize t * hold = P at hn1 hn2
      show M > P - hold
      omega
  · have ht : turns qs hold = -1 := if_neg hc
    rw [ht]
    refine evT (by decide) ?_
    rw [ht] at hsp
    refine Ev.bind hsp ?_
    exact evT rfl (Ev.bind his (Ev.bind hss (Ev.bind hq (Ev.now _))))

end Go.Proofs.Ytjnopjnickcloaa.Q
