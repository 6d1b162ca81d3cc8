/- Plain lemmas on what the printed functions compute (seat Ytjnopjnickcloaa, module Qu). Conditions: each lemma's own. -/
import Derived.Test.YtjnopjnickcloaaQt
import Derived.Test.YtjnopjnickcloaaPA0
import Derived.Test.YtjnopjnickcloaaPA10
import Derived.Test.YtjnopjnickcloaaPA11
import Derived.Test.YtjnopjnickcloaaPA13
import Derived.Test.YtjnopjnickcloaaPA9
set_option linter.unusedVariables false
set_option linter.unusedSimpArgs false
namespace Go.Proofs.Ytjnopjnickcloaa.Q
open Go Go.RowKit Go.Proofs.Ytjnopjnickcloaa.PA Go.Proofs.YtjnopjnickcloaaW.PrintWords Go.Proofs.YtjnopjnickcloaaW.PrintLast

theorem specFin {hold : Nat} {s : Int} (hs2 : s ≤ 2000) {l o : List Int} (hl : l.length ≤ 6) (hg : Good s l o) (he : Over s l o) :
    Ev (fun k => spec_RunToken.l0 k (hold : Int) s l o 0 (o.length : Int) false) (tokRes l o) := by
  have fin : Ev (fun k => spec_RunToken.j2 k (hold : Int) s l false o 0 (o.length : Int) false) (tokRes l o) := by
    refine Ev.step (fun k => by rw [spec_RunToken.j2]) ?_
    exact evF (by simp) (Ev.bind (l9Sum_ev l hg.1 (by omega)) (Ev.now _))
  refine Ev.step (fun k => by rw [spec_RunToken.l0]) ?_
  by_cases h2 : (o.length : Int) < s
  · refine evT h2 (Ev.bind (l9Sum_ev l hg.1 (by omega)) ?_)
    have h1 : ¬ (tot l > 0) := by rcases he with he | he <;> omega
    rw [decide_eq_false h1]
    exact fin
  · exact evF h2 fin
theorem specOver {hold : Nat} {s : Int} (h9 : hold ≤ 9) (hs2 : s ≤ 2000) {l o : List Int} (hl : l.length ≤ 6) (hg : Good s l o) (he : Over s l o) : ∀ (d a : Nat), a + d = l.length →
    Ev (fun k => spec_RunToken.l1 k (hold : Int) s l (a : Int) o 0 (o.length : Int) false) (tokRes l o) := by
  intro d
  induction d with
  | zero =>
    intro a ha
    refine Ev.step (fun k => by rw [spec_RunToken.l1]) ?_
    exact evF (by omega) (specFin hs2 hl hg he)
  | succ d ih =>
    intro a ha
    refine Ev.step (fun k => by rw [spec_RunToken.l1]) ?_
    refine evT (by omega) ?_
    refine specBurst hold s hs2 a hold 0 l o (by omega) h9 (by omega) hl hg ?_
    rw [burst_over hg he]
    exact ih (a + 1) (by omega)
theorem specTok {hold : Nat} {s : Int} (h9 : hold ≤ 9) (hs2 : s ≤ 2000) {a : Nat} {l o rl ro : List Int} (ht : Tok hold s a l o rl ro) : l.length ≤ 6 → a < l.length → Good s l o →
    Ev (fun k => spec_RunToken.l1 k (hold : Int) s l (a : Int) o 0 (o.length : Int) false) (tokRes rl ro) := by
  induction ht with
  | @done a l o he =>
    intro hl ha hg
    exact specOver h9 hs2 hl hg he (l.length - a) a (by omega)
  | @step a l o rl ro he ht' ih =>
    intro hl ha hg
    obtain ⟨g1, g2, _⟩ := burst_all (a := a) hold l o hg
    refine Ev.step (fun k => by rw [spec_RunToken.l1]) ?_
    refine evT (by omega) ?_
    refine specBurst hold s hs2 a hold 0 l o (by omega) h9 ha hl hg ?_
    have hih := ih (by omega) (by rw [g2]; exact Nat.mod_lt _ (by omega)) g1
    revert ht' hih g1 g2
    generalize (burst s a hold l o).1 = l'
    generalize (burst s a hold l o).2 = o'
    intro ht' g1 g2 hih
    by_cases h1 : a + 1 < l.length
    · rw [Nat.mod_eq_of_lt h1] at hih
      exact hih
    · have h2 : a + 1 = l.length := by omega
      rw [h2, Nat.mod_self] at hih ht'
      refine Ev.step (fun k => by rw [spec_RunToken.l1]) ?_
      refine evF (by omega) ?_
      by_cases he' : Over s l' o'
      · cases ht' with
        | done _ => exact specFin hs2 (by omega) g1 he'
        | step h3 _ => exact (h3 he').elim
      · have h3 : tot l' > 0 := by
          rcases Int.lt_or_le 0 (tot l') with h4 | h4
          · exact h4
          · exact (he' (.inl h4)).elim
        have h5 : (o'.length : Int) < s := by
          rcases Int.lt_or_le (o'.length : Int) s with h4 | h4
          · exact h4
          · exact (he' (.inr h4)).elim
        refine Ev.step (fun k => by rw [spec_RunToken.l0]) ?_
        refine evT h5 (Ev.bind (l9Sum_ev l' g1.1 (by omega)) ?_)
        rw [decide_eq_true h3]
        refine Ev.step (fun k => by rw [spec_RunToken.j2]) ?_
        exact evT rfl hih
theorem specStart {hold : Nat} {s : Int} (h9 : hold ≤ 9) (hs2 : s ≤ 2000) {l o rl ro : List Int} (ht : Tok hold s 0 l o rl ro) (hl : l.length ≤ 6) (hg : Good s l o) :
    Ev (fun k => spec_RunToken.l0 k (hold : Int) s l o 0 (o.length : Int) false) (tokRes rl ro) := by
  by_cases he' : Over s l o
  · cases ht with
    | done _ => exact specFin hs2 hl hg he'
    | step h3 _ => exact (h3 he').elim
  · have h3 : tot l > 0 := by
      rcases Int.lt_or_le 0 (tot l) with h4 | h4
      · exact h4
      · exact (he' (.inl h4)).elim
    have h5 : (o.length : Int) < s := by
      rcases Int.lt_or_le (o.length : Int) s with h4 | h4
      · exact h4
      · exact (he' (.inr h4)).elim
    have hlen : 0 < l.length := by
      match l, h3 with
      | [], h3 => simp [tot] at h3
      | x :: xs, _ => simp
    refine Ev.step (fun k => by rw [spec_RunToken.l0]) ?_
    refine evT h5 (Ev.bind (l9Sum_ev l hg.1 (by omega)) ?_)
    rw [decide_eq_true h3]
    refine Ev.step (fun k => by rw [spec_RunToken.j2]) ?_
    exact evT rfl (specTok h9 hs2 ht hl hlen hg)
theorem implTot_l0 (hold s : Int) (l : List Int) (hv : ∀ x ∈ l, 0 ≤ x ∧ x ≤ 9) (hl : l.length ≤ 6) {R : List Int × Int × Int × Bool × Bool} (h : Ev (fun k => impl_RunToken.l1 k hold s l (tot l) 0 ([] : List Int) 0 0 false) R) : ∀ (d i : Nat) (acc : Int), i + d = l.length → 0 ≤ acc → acc ≤ 9 * i → acc + tot (l.drop i) = tot l →
    Ev (fun k => impl_RunToken.l0 k hold s l acc l (l.length : Int) (i : Int) 0 0 false) R := by
  intro d
  induction d with
  | zero =>
    intro i acc hi h0 h1 h2
    rw [List.drop_of_length_le (by omega)] at h2
    have : acc = tot l := by simpa [tot] using h2
    subst this
    refine Ev.step (fun k => by rw [impl_RunToken.l0]) ?_
    exact evF (by omega) h
  | succ d ih =>
    intro i acc hi h0 h1 h2
    have e : wrap64 ((i : Int) + 1) = ((i + 1 : Nat) : Int) := by rw [w64 (by omega) (by omega)]; omega
    have hx := hv (l[i]'(by omega)) (List.getElem_mem _)
    rw [List.drop_eq_getElem_cons (by omega : i < l.length)] at h2
    simp only [tot] at h2
    refine Ev.step (fun k => by rw [impl_RunToken.l0]) ?_
    refine evT (by omega) (evT (by omega) (evT (by omega) ?_))
    rw [rd_at l i (by omega), e, w64 (x := acc + l[i]'(by omega)) (by omega) (by omega)]
    exact ih (i + 1) _ (by omega) (by omega) (by omega) (by omega)
theorem token_ev (l : List Int) (hold s : Int) (hl : l.length ≤ 1000000000000) : ∃ ro : List Int, ∃ sl : Int, ∃ dn ok : Bool, Ev (fun k => impl_RunToken.f k l hold s) (ro, 0, sl, dn, ok) ∧ Ev (fun k => spec_RunToken.f k l hold s) (ro, 0, sl, dn, ok) ∧ ro.length ≤ 2000 ∧
    (ok = true → (∀ x ∈ l, 0 ≤ x ∧ x ≤ 9) ∧ l.length ≤ 6 ∧ (ro.length : Int) = sl ∧ sl = mn (tot l) s ∧ dn = decide (s ≥ tot l)) := by
  have hsl : impl_slotsOk.f s = some (decide (0 ≤ s ∧ s ≤ 2000)) := by unfold impl_slotsOk.f; rw [within_eq]; rfl
  by_cases hc : tv l = true ∧ (1 ≤ hold ∧ hold ≤ 9) ∧ (0 ≤ s ∧ s ≤ 2000)
  · obtain ⟨c1, c2, c3⟩ := hc
    obtain ⟨hl6, hv'⟩ := tv_elim l c1
    have hv : ∀ x ∈ l, 0 ≤ x ∧ x ≤ 9 := fun x hx => by
      obtain ⟨i, hi', rfl⟩ := List.getElem_of_mem hx
      exact hv' i hi'
    obtain ⟨h, rfl⟩ := Int.eq_ofNat_of_zero_le (show 0 ≤ hold by omega)
    have hg : Good s l [] := ⟨hv, by simp; omega⟩
    obtain ⟨rl, ro, ht⟩ := tok_ex (h := h) (s := s) (by omega) (tot l).toNat l [] hg (Nat.le_refl _)
    obtain ⟨g1, g2, g3⟩ := tok_end ht hg
    have hb := tot_bd g1.1
    have hro := g1.2
    refine ⟨ro, (ro.length : Int), (tot rl == 0), true, ?_, ?_, by omega, fun _ => ⟨hv, hl6, rfl, ?_, ?_⟩⟩
    · simp only [impl_RunToken.f]
      refine evS (implTalk_eq l) (evT c1 (evS (within_eq _ _ _) (evT (decide_eq_true c2) (evS hsl ?_))))
      rw [decide_eq_true c3]
      refine Ev.step (fun k => by rw [impl_RunToken.j0]) ?_
      refine evF (by simp) (evS (show slices_Clone_int_int.f l = some l by unfold slices_Clone_int_int.f; rw [if_pos (by omega)]) ?_)
      exact implTot_l0 _ s l hv hl6 (implTok (by omega) (by omega) ht hl6 (fun h => h) hg) l.length 0 0 (by omega) (by omega) (by omega) (by simp)
    · simp only [spec_RunToken.f]
      refine Ev.bind (specTalk_ev l hl) (evT c1 (evS (l1In_eq _ _ _) (evT (decide_eq_true c2) (evS (l1In_eq _ _ _) ?_))))
      rw [decide_eq_true c3]
      refine Ev.step (fun k => by rw [spec_RunToken.j0]) ?_
      refine evF (by simp) (evS rfl (evT (by simp; omega) ?_))
      exact specStart (by omega) (by omega) ht hl6 hg
    · simp only [List.length_nil] at g3
      unfold mn
      rcases g2 with g2 | g2
      · split <;> omega
      · split <;> omega
    · simp only [List.length_nil] at g3
      rw [Bool.eq_iff_iff, beq_iff_eq, decide_eq_true_eq]
      rcases g2 with g2 | g2 <;> omega
  · refine ⟨[], 0, false, false, ?_, ?_, by simp, fun h => by cases h⟩
    · have out : Ev (fun k => impl_RunToken.j0 k l hold s true) (([] : List Int), (0 : Int), (0 : Int), false, false) := by
        refine Ev.step (fun k => by rw [impl_RunToken.j0]) ?_
        exact evT rfl (Ev.now _)
      simp only [impl_RunToken.f]
      refine evS (implTalk_eq l) ?_
      by_cases c1 : tv l = true
      · refine evT c1 (evS (within_eq _ _ _) ?_)
        by_cases c2 : 1 ≤ hold ∧ hold ≤ 9
        · refine evT (decide_eq_true c2) (evS hsl ?_)
          rw [decide_eq_false (fun c3 => hc ⟨c1, c2, c3⟩)]
          exact out
        · exact evF (by simpa using c2) out
      · exact evF c1 out
    · have out : Ev (fun k => spec_RunToken.j0 k l hold s true) (([] : List Int), (0 : Int), (0 : Int), false, false) := by
        refine Ev.step (fun k => by rw [spec_RunToken.j0]) ?_
        exact evT rfl (Ev.now _)
      simp only [spec_RunToken.f]
      refine Ev.bind (specTalk_ev l hl) ?_
      by_cases c1 : tv l = true
      · refine evT c1 (evS (l1In_eq _ _ _) ?_)
        by_cases c2 : 1 ≤ hold ∧ hold ≤ 9
        · refine evT (decide_eq_true c2) (evS (l1In_eq _ _ _) ?_)
          rw [decide_eq_false (fun c3 => hc ⟨c1, c2, c3⟩)]
          exact out
        · exact evF (by simpa using c2) out
      · exact evF c1 out

end Go.Proofs.Ytjnopjnickcloaa.Q
