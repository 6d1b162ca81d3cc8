/- Plain lemmas on what the printed functions compute (seat Ytdokfpdnejkhcaa, module QMoved). Conditions: each lemma's own. -/
import Derived.Test.YtdokfpdnejkhcaaQd
import Derived.Test.YtdokfpdnejkhcaaPA0
import Derived.Test.YtdokfpdnejkhcaaPA16
import Derived.Test.YtdokfpdnejkhcaaPA7
set_option linter.unusedVariables false
set_option linter.unusedSimpArgs false
namespace Go.Proofs.Ytdokfpdnejkhcaa.Q
open Go Go.RowKit Go.Proofs.Ytdokfpdnejkhcaa.PA Go.Proofs.YtdokfpdnejkhcaaW.PrintWords Go.Proofs.YtdokfpdnejkhcaaW.PrintLast

theorem movedLoop (a b : List Bool) (n : Int) (hn : n = moved a b) (h0 : 0 ≤ n) : ∀ (d i : Nat) (df many : Int), i + d = a.length → 0 ≤ many → many ≤ i →
    (many = 0 → ∀ j, j < i → a[j]? = b[j]?) → (many = 1 → ∃ q : Nat, df = q ∧ q < i ∧ a[q]? ≠ b[q]? ∧ ∀ j, j < i → j ≠ q → a[j]? = b[j]?) →
    Ev (fun k => laws_FnMoved.l0 k a b n df many (a.length : Int) (i : Int)) true := by
  have hm : isB a ∧ a.length = b.length ∧ n = sumTo (mv a b) 225 := by
    rcases moved_bd a b with h | ⟨_, h1, h2, h3⟩
    · omega
    · exact ⟨h1, h2, by rw [hn, h3]⟩
  obtain ⟨hB, hlen, hns⟩ := hm
  have h8 := hB.2
  intro d
  induction d with
  | zero =>
    intro i df many hi hm0 hmi hz ho
    have hi' : i = a.length := by omega
    subst hi'
    refine Ev.step (fun k => by rw [laws_FnMoved.l0]) ?_
    refine evF (by omega) ?_
    by_cases h1 : many = 1
    · refine evT h1 ?_
      obtain ⟨q, rfl, hq, hne, he⟩ := ho h1
      have hg1 : a[q]? = some (a[q]'hq) := List.getElem?_eq_getElem hq
      have hg2 : b[q]? = some (b[q]'(by omega)) := List.getElem?_eq_getElem (by omega)
      have hall : ∀ j, j ≠ q → a[j]? = b[j]? := by
        intro j hj
        rcases Nat.lt_or_ge j a.length with h9 | h9
        · exact he j h9 hj
        · rw [List.getElem?_eq_none h9, List.getElem?_eq_none (by omega)]
      have hback : Ev (fun k => (impl_MovedFlows.f k b a).bind fun t => some (t == n)) true := by
        refine Ev.bind (implMoved_ev b a) (evE (Ev.now _) ?_)
        rw [moved_comm, ← hn]; simp
      refine evT (by omega) (evT (by omega) ?_)
      rw [rdOf_at false b q (by omega)]
      by_cases h2 : b[q]'(by omega) = true
      · have ha : a[q]'hq = false := by
          rw [hg1, hg2, h2] at hne
          simpa using hne
        have hB' : isB b := by unfold isB at *; omega
        have e : shares b = sh b 225 := if_pos hB'
        have hx := moved_one b a q hlen.symm (by rw [hg2, h2]) (by rw [hg1, ha]) (fun j hj => (hall j hj).symm) hB'
        refine evT h2 (Ev.bind (implShares_ev b) ?_)
        rw [e]
        refine evT (by rw [sh_length]; omega) (evT ?_ hback)
        rw [rd_at _ q (by rw [sh_length]; omega), sh_get, ← hx, hns]
        exact sumTo_congr 225 (fun i _ => mv_comm a b i)
      · have ha : a[q]'hq = true := by
          have h2' : b[q]'(by omega) = false := by simpa using h2
          rw [hg1, hg2, h2'] at hne
          simpa using hne
        have h2' : b[q]'(by omega) = false := by simpa using h2
        have e : shares a = sh a 225 := if_pos hB
        have hx := moved_one a b q hlen (by rw [hg1, ha]) (by rw [hg2, h2']) hall hB
        refine evF h2 (Ev.bind (implShares_ev a) ?_)
        rw [e]
        refine evT (by rw [sh_length]; omega) (evT ?_ hback)
        rw [rd_at _ q (by rw [sh_length]; omega), sh_get, ← hx, hns]
    · refine evF h1 (Ev.bind (implMoved_ev b a) (evT (by rw [moved_comm, ← hn]) ?_))
      by_cases h2 : many > 0
      · exact evT h2 (Ev.now _)
      · refine evF h2 (evE (Ev.now _) ?_)
        have hab : a = b := by
          refine List.ext_getElem? fun j => ?_
          rcases Nat.lt_or_ge j a.length with h9 | h9
          · exact hz (by omega) j h9
          · rw [List.getElem?_eq_none h9, List.getElem?_eq_none (by omega)]
        subst hab
        rw [hns, sumTo_zero (g := mv a a) 225 (fun i _ => if_pos rfl)]
        rfl
  | succ d ih =>
    intro i df many hi hm0 hmi hz ho
    have e : wrap64 ((i : Int) + 1) = ((i + 1 : Nat) : Int) := by rw [w64 (by omega) (by omega)]; omega
    have e2 : wrap64 (many + 1) = many + 1 := w64 (by omega) (by omega)
    have hg1 : a[i]? = some (a[i]'(by omega)) := List.getElem?_eq_getElem (by omega)
    have hg2 : b[i]? = some (b[i]'(by omega)) := List.getElem?_eq_getElem (by omega)
    refine Ev.step (fun k => by rw [laws_FnMoved.l0]) ?_
    refine evT (by omega) (evT (by omega) (evT (by omega) (evT (by omega) ?_)))
    rw [rdOf_at false a i (by omega), rdOf_at false b i (by omega), e, e2]
    by_cases h : a[i]'(by omega) = b[i]'(by omega)
    · refine evF (by simp [h]) (ih (i + 1) df many (by omega) hm0 (by omega) ?_ ?_)
      · intro hm j hj
        rcases Nat.lt_or_ge j i with h9 | h9
        · exact hz hm j h9
        · have : j = i := by omega
          subst this
          rw [hg1, hg2, h]
      · intro hm
        obtain ⟨q, hq1, hq2, hq3, hq4⟩ := ho hm
        refine ⟨q, hq1, by omega, hq3, fun j hj hjq => ?_⟩
        rcases Nat.lt_or_ge j i with h9 | h9
        · exact hq4 j h9 hjq
        · have : j = i := by omega
          subst this
          rw [hg1, hg2, h]
    · refine evT (by simpa using h) (ih (i + 1) i (many + 1) (by omega) (by omega) (by omega) (by omega) ?_)
      intro hm
      refine ⟨i, rfl, by omega, by rw [hg1, hg2]; simpa using h, fun j hj hji => ?_⟩
      exact hz (by omega) j (by omega)
theorem q_FnMoved : laws_FnMoved.Pure := by
  intro l hl1 hl2 hb
  refine Ev.rounds ?_
  simp only [laws_FnMoved.f]
  by_cases h0 : (l.length : Int) > 1048576
  · exact evT h0 (Ev.now _)
  obtain ⟨a, b, hd, _, _⟩ := drawMoved_ev l hb
  refine evF h0 (Ev.bind hd (Ev.bind (implMoved_ev a b) (Ev.bind (specMoved_ev a b) (evT rfl (Ev.bind (implMoved_ev b a) (Ev.bind (specMoved_ev b a) (evT rfl ?_)))))))
  refine Ev.step (fun k => by rw [laws_FnMoved.j0]) ?_
  by_cases hn : moved a b < 0
  · refine evT (decide_eq_true hn) (Ev.bind (specMoved_ev a b) (evT rfl (evE (Ev.now _) ?_)))
    rcases moved_bd a b with h | h
    · rw [h]; rfl
    · omega
  · refine evF (by simpa using hn) ?_
    exact movedLoop a b _ rfl (by omega) a.length 0 (-1) 0 (by omega) (by omega) (by omega) (fun _ j hj => absurd hj (Nat.not_lt_zero _)) (fun h => by omega)

end Go.Proofs.Ytdokfpdnejkhcaa.Q
