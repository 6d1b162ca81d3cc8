/- Plain lemmas on what the printed functions compute (seat Ytjnopjnickcloaa, module QFair). Conditions: each lemma's own. -/
import Derived.Test.YtjnopjnickcloaaQu
import Derived.Test.YtjnopjnickcloaaPA0
set_option linter.unusedVariables false
set_option linter.unusedSimpArgs false
namespace Go.Proofs.Ytjnopjnickcloaa.Q
open Go Go.RowKit Go.Proofs.Ytjnopjnickcloaa.PA Go.Proofs.YtjnopjnickcloaaW.PrintWords Go.Proofs.YtjnopjnickcloaaW.PrintLast

/-! ### a token is fair -/
/-- how often k is in o -/
def cn (o : List Int) (k : Nat) : Int := sumTo (isAt o k) o.length
theorem cn_nil (k : Nat) : cn [] k = 0 := rfl
theorem cn_snoc (o : List Int) (x : Int) (k : Nat) : cn (o ++ [x]) k = cn o k + if x = (k : Int) then 1 else 0 := by
  unfold cn
  rw [List.length_append, List.length_singleton]
  show sumTo (isAt (o ++ [x]) k) o.length + isAt (o ++ [x]) k o.length = _
  rw [sumTo_congr (h := isAt o k) o.length (fun i hi => by unfold isAt; simp [List.getD_eq_getElem?_getD, List.getElem?_append_left hi])]
  congr 1
  unfold isAt
  simp [List.getD_eq_getElem?_getD]
theorem cn_nonneg (o : List Int) (k : Nat) : 0 ≤ cn o k := (sumTo_bd (isAt_bd o k) o.length).1
def FairO (q : List Int) (h : Nat) (o : List Int) : Prop := ∀ a b : Nat, a < q.length → b < q.length → a ≠ b → cn o b < q.getD b 0 → cn o a ≤ cn o b + h
def PF (q : List Int) (h : Nat) (o : List Int) : Prop := ∀ i, i ≤ o.length → FairO q h (o.take i)
theorem PF.snoc {q : List Int} {h : Nat} {o : List Int} {x : Int} (p : PF q h o) (f : FairO q h (o ++ [x])) : PF q h (o ++ [x]) := by
  intro i hi
  rw [List.length_append, List.length_singleton] at hi
  by_cases e : i = o.length + 1
  · rw [List.take_of_length_le (by simp; omega)]; exact f
  · rw [List.take_append_of_le_length (by omega)]; exact p i (by omega)
/-- what is left is what has not been sent -/
def LI (q l o : List Int) : Prop := l.length = q.length ∧ ∀ k, k < q.length → l.getD k 0 = q.getD k 0 - cn o k
/-- the turn is at a; each has been given P, those before a one hold more -/
def FI (q : List Int) (h a : Nat) (P : Int) (o : List Int) : Prop := ∀ k, k < q.length → cn o k = min (q.getD k 0) (if k < a then P + h else P)
theorem fair_mid {q : List Int} {h a : Nat} {P : Int} {o : List Int} (h1 : ∀ k, k < q.length → k ≠ a → cn o k = min (q.getD k 0) (if k < a then P + h else P)) (h2 : min (q.getD a 0) P ≤ cn o a) (h3 : cn o a ≤ P + h) : FairO q h o := by
  intro x y hx hy hne hlt
  have hxb : cn o x ≤ P + h := by
    by_cases e : x = a
    · rw [e]; exact h3
    · have := h1 x hx e
      split at this <;> omega
  have hyb : P ≤ cn o y := by
    by_cases e : y = a
    · subst e; omega
    · have := h1 y hy e
      split at this <;> omega
  omega
theorem burst_fair {q : List Int} {h a : Nat} {P : Int} {s : Int} (ha : a < q.length) (hh : 1 ≤ h) : ∀ (d j : Nat) (l o : List Int), j + d = h → (∀ x ∈ l, 0 ≤ x ∧ x ≤ 9) → LI q l o → PF q h o →
    (∀ k, k < q.length → k ≠ a → cn o k = min (q.getD k 0) (if k < a then P + h else P)) → cn o a = min (q.getD a 0) P + j →
    LI q (burst s a d l o).1 (burst s a d l o).2 ∧ PF q h (burst s a d l o).2 ∧ (s ≤ ((burst s a d l o).2.length : Int) ∨ FI q h (a + 1) P (burst s a d l o).2) := by
  intro d
  induction d with
  | zero =>
    intro j l o hj hl hLI hPF hk hca
    refine ⟨hLI, hPF, .inr fun k hkn => ?_⟩
    show cn o k = _
    by_cases e : k = a
    · subst e
      rw [if_pos (by omega)]
      have h4 := hLI.2 k hkn
      have h5 : 0 ≤ l.getD k 0 := by
        rw [getD_at l k (by rw [hLI.1]; exact hkn)]
        exact (hl _ (List.getElem_mem _)).1
      omega
    · rw [hk k hkn e]
      by_cases e2 : k < a
      · rw [if_pos e2, if_pos (by omega)]
      · rw [if_neg e2, if_neg (by omega)]
  | succ d ih =>
    intro j l o hj hl hLI hPF hk hca
    have h4 := hLI.2 a ha
    simp only [burst]
    by_cases hc : 0 < l.getD a 0 ∧ (o.length : Int) < s
    · rw [if_pos hc]
      have hal : a < l.length := by rw [hLI.1]; exact ha
      have hcn : ∀ k, cn (o ++ [(a : Int)]) k = cn o k + if a = k then 1 else 0 := fun k => by
        rw [cn_snoc]
        by_cases e : a = k
        · rw [if_pos e, if_pos (by omega)]
        · rw [if_neg e, if_neg (by omega)]
      have hk' : ∀ k, k < q.length → k ≠ a → cn (o ++ [(a : Int)]) k = min (q.getD k 0) (if k < a then P + h else P) := fun k hkn e => by
        rw [hcn, if_neg (fun e' => e e'.symm), hk k hkn e]; omega
      have hca' : cn (o ++ [(a : Int)]) a = min (q.getD a 0) P + ((j + 1 : Nat) : Int) := by rw [hcn, if_pos rfl, hca]; omega
      refine ih (j + 1) (l.set a (l.getD a 0 - 1)) (o ++ [(a : Int)]) (by omega) ?_ ?_ (hPF.snoc (fair_mid hk' (by omega) (by omega))) hk' hca'
      · intro x hx
        have hm : l.getD a 0 ∈ l := by rw [getD_at l a hal]; exact List.getElem_mem _
        have := hl _ hm
        rcases List.mem_or_eq_of_mem_set hx with h3 | h3
        · exact hl x h3
        · omega
      · refine ⟨by simp [hLI.1], fun k hkn => ?_⟩
        rw [hcn]
        have h6 : (l.set a (l.getD a 0 - 1)).getD k 0 = if a = k then l.getD a 0 - 1 else l.getD k 0 := by
          simp only [List.getD_eq_getElem?_getD, List.getElem?_set]
          by_cases e : a = k
          · subst e; simp [hal]
          · simp [e]
        rw [h6]
        have := hLI.2 k hkn
        by_cases e : a = k
        · subst e; rw [if_pos rfl, if_pos rfl]; omega
        · rw [if_neg e, if_neg e]; omega
    · rw [if_neg hc]
      refine ⟨hLI, hPF, ?_⟩
      by_cases e0 : s ≤ (o.length : Int)
      · exact .inl e0
      · refine .inr fun k hkn => ?_
        show cn o k = _
        by_cases e : k = a
        · subst e
          rw [if_pos (by omega)]
          have h5 : 0 ≤ l.getD k 0 := by
            rw [getD_at l k (by rw [hLI.1]; exact hkn)]
            exact (hl _ (List.getElem_mem _)).1
          omega
        · rw [hk k hkn e]
          by_cases e2 : k < a
          · rw [if_pos e2, if_pos (by omega)]
          · rw [if_neg e2, if_neg (by omega)]
theorem tok_fair {q : List Int} {h : Nat} {s : Int} (hh : 1 ≤ h) {a : Nat} {l o rl ro : List Int} (ht : Tok h s a l o rl ro) : Good s l o → LI q l o → PF q h o → (a < q.length ∨ q.length = 0) → ∀ P : Int, FI q h a P o → PF q h ro := by
  induction ht with
  | done _ => intro _ _ hPF _ _ _; exact hPF
  | @step a l o rl ro he ht' ih =>
    intro hg hLI hPF ha P hFI
    have hql : 0 < q.length := by
      rcases Nat.eq_zero_or_pos q.length with h0 | h0
      · exfalso
        have hl0 : l = [] := List.eq_nil_of_length_eq_zero (by rw [hLI.1]; exact h0)
        exact he (.inl (by rw [hl0]; simp [tot]))
      · exact h0
    have ha' : a < q.length := by omega
    obtain ⟨g1, g2, _⟩ := burst_all (a := a) h l o hg
    obtain ⟨b1, b2, b3⟩ := burst_fair (s := s) (P := P) ha' hh h 0 l o (by omega) hg.1 hLI hPF (fun k hk e => hFI k hk) (by have := hFI a ha'; rw [if_neg (by omega)] at this; omega)
    rcases b3 with b3 | b3
    · cases ht' with
      | done _ => exact b2
      | step h3 _ => exact (h3 (.inr b3)).elim
    · by_cases e : a + 1 < q.length
      · have hm : (a + 1) % l.length = a + 1 := Nat.mod_eq_of_lt (by rw [hLI.1]; exact e)
        rw [hm] at ih
        exact ih g1 b1 b2 (.inl e) P b3
      · have hm : (a + 1) % l.length = 0 := by rw [hLI.1, show a + 1 = q.length by omega, Nat.mod_self]
        rw [hm] at ih
        refine ih g1 b1 b2 (.inl hql) (P + h) (fun k hk => ?_)
        have := b3 k hk
        rw [if_pos (by omega)] at this
        rw [if_neg (by omega)]
        exact this

end Go.Proofs.Ytjnopjnickcloaa.Q
