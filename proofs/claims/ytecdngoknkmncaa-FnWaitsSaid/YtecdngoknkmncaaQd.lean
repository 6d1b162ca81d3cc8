/- Plain lemmas on what the printed functions compute (seat Ytecdngoknkmncaa, module Qd). Conditions: each lemma's own. -/
import Derived.Test.YtecdngoknkmncaaQa
import Derived.Test.YtecdngoknkmncaaPA0
import Derived.Test.YtecdngoknkmncaaPA9
set_option linter.unusedVariables false
set_option linter.unusedSimpArgs false
namespace Go.Proofs.Ytecdngoknkmncaa.Q
open Go Go.RowKit Go.Proofs.Ytecdngoknkmncaa.PA Go.Proofs.YtecdngoknkmncaaW.PrintWords Go.Proofs.YtecdngoknkmncaaW.PrintLast

/-! ### who waits for whom -/
theorem rd50_at' (l : List S50) (i : Nat) (h : i < l.length) : rd_T50 l (i : Int) = l[i] := by
  simp [rd_T50, List.getD_eq_getElem?_getD, h]
/-- where a number stands first -/
def At (l : List Int) (a : Int) (m : Nat) : Prop := m < l.length ∧ rd l (m : Int) = a ∧ ∀ j : Nat, j < m → rd l (j : Int) ≠ a
theorem index_l0 (l : List Int) (hl : l.length ≤ 1000000000000) (a : Int) : ∀ d i : Nat, i + d = l.length → (∀ j : Nat, j < i → rd l (j : Int) ≠ a) →
    ∃ t, Ev (fun k => slices_Index_int_int.l0 k l a (l.length : Int) (i : Int)) t ∧ ((t = -1 ∧ ∀ j : Nat, j < l.length → rd l (j : Int) ≠ a) ∨ ∃ m : Nat, t = (m : Int) ∧ At l a m) := by
  intro d
  induction d with
  | zero =>
    intro i hi hj
    refine ⟨-1, Ev.step (fun k => by rw [slices_Index_int_int.l0]) ?_, .inl ⟨rfl, fun j h => hj j (by omega)⟩⟩
    exact evF (by omega) (Ev.now _)
  | succ d ih =>
    intro i hi hj
    by_cases c : a = rd l (i : Int)
    · refine ⟨(i : Int), Ev.step (fun k => by rw [slices_Index_int_int.l0]) ?_, .inr ⟨i, rfl, by omega, c.symm, hj⟩⟩
      exact evT (by omega) (evT (by omega) (evT (by omega) (evT c (Ev.now _))))
    · obtain ⟨t, ht, h2⟩ := ih (i + 1) (by omega) (fun j h => by
        by_cases e : j = i
        · subst e; exact fun h => c h.symm
        · exact hj j (by omega))
      refine ⟨t, Ev.step (fun k => by rw [slices_Index_int_int.l0]) ?_, h2⟩
      refine evT (by omega) (evT (by omega) (evT (by omega) (evF c ?_)))
      rw [show wrap64 ((i : Int) + 1) = ((i + 1 : Nat) : Int) by rw [w64 (by omega) (by omega)]; omega]
      exact ht
theorem index_ev (l : List Int) (hl : l.length ≤ 1000000000000) (a : Int) : ∃ t, Ev (fun k => slices_Index_int_int.f k l a) t ∧ ((t = -1 ∧ ∀ j : Nat, j < l.length → rd l (j : Int) ≠ a) ∨ ∃ m : Nat, t = (m : Int) ∧ At l a m) := by
  simp only [slices_Index_int_int.f]
  exact index_l0 l hl a l.length 0 (by omega) (fun j h => by omega)
/-- what both return: -1, or the sum ahead of the first place -/
def WB (js : List S50) (l : List Int) (a v : Int) : Prop :=
  (v = -1 ∧ (l.all (impl_WaitsBefore.okI js) = false ∨ ∀ j : Nat, j < l.length → rd l (j : Int) ≠ a)) ∨ (l.all (impl_WaitsBefore.okI js) = true ∧ ∃ m : Nat, At l a m ∧ v = impl_WaitsBefore.sumN js l m)
theorem At.uniq {l : List Int} {a : Int} {m n : Nat} (h : At l a m) (k : At l a n) : m = n := by
  rcases Nat.lt_trichotomy m n with c | c | c
  · exact absurd h.2.1 (k.2.2 m c)
  · exact c
  · exact absurd k.2.1 (h.2.2 n c)
theorem WB.uniq {js : List S50} {l : List Int} {a v u : Int} (h : WB js l a v) (k : WB js l a u) : v = u := by
  rcases h with ⟨rfl, h⟩ | ⟨h1, m, hm, rfl⟩ <;> rcases k with ⟨rfl, k⟩ | ⟨k1, n, hn, rfl⟩
  · rfl
  · rcases h with h | h
    · rw [h] at k1; cases k1
    · exact absurd hn.2.1 (h n hn.1)
  · rcases k with k | k
    · rw [k] at h1; cases h1
    · exact absurd hm.2.1 (k m hm.1)
  · rw [hm.uniq hn]
theorem implWaits_ev (js : List S50) (l : List Int) (hl : l.length ≤ 1000000000000) (a : Int) : ∃ v, Ev (fun k => impl_WaitsBefore.f k js l a) v ∧ WB js l a v := by
  obtain ⟨t, ht, h⟩ := index_ev l hl a
  have e : ∀ {v : Int}, Ev (fun _ : Nat => if t < 0 then some (-1) else if t < (l.length : Int) then (if l.all (impl_WaitsBefore.okI js) = true then some (impl_WaitsBefore.sumN js l t.toNat) else some (-1)) else none) v → Ev (fun k => impl_WaitsBefore.f k js l a) v := by
    intro v hv
    unfold impl_WaitsBefore.f
    exact evT hl (Ev.bind ht hv)
  rcases h with ⟨rfl, hn⟩ | ⟨m, rfl, hm⟩
  · exact ⟨-1, e (evT (by omega) (Ev.now _)), .inl ⟨rfl, .inr hn⟩⟩
  · by_cases ha : l.all (impl_WaitsBefore.okI js) = true
    · refine ⟨_, e (evF (by omega) (evT (by have := hm.1; omega) (evT ha (Ev.now _)))), .inr ⟨ha, m, hm, ?_⟩⟩
      rw [Int.toNat_natCast]
    · refine ⟨-1, e (evF (by omega) (evT (by have := hm.1; omega) (evF ha (Ev.now _)))), .inl ⟨rfl, .inl (by simpa using ha)⟩⟩
theorem specWaits_l1 (js : List S50) (l : List Int) (hl : l.length ≤ 1000000000000) (a : Int) (ha : l.all (impl_WaitsBefore.okI js) = true) : ∀ d i : Nat, i + d = l.length → (∀ j : Nat, j < i → rd l (j : Int) ≠ a) →
    ∃ v, Ev (fun k => spec_WaitsBefore.l1 k js l a (impl_WaitsBefore.sumN js l i) (i : Int)) v ∧ WB js l a v := by
  intro d
  induction d with
  | zero =>
    intro i hi hj
    refine ⟨-1, Ev.step (fun k => by rw [spec_WaitsBefore.l1]) ?_, .inl ⟨rfl, .inr fun j h => hj j (by omega)⟩⟩
    exact evF (by omega) (Ev.now _)
  | succ d ih =>
    intro i hi hj
    by_cases c : rd l (i : Int) = a
    · refine ⟨impl_WaitsBefore.sumN js l i, Ev.step (fun k => by rw [spec_WaitsBefore.l1]) ?_, .inr ⟨ha, i, ⟨by omega, c, hj⟩, rfl⟩⟩
      exact evT (by omega) (evT (by omega) (evT c (Ev.now _)))
    · obtain ⟨v, hv, h2⟩ := ih (i + 1) (by omega) (fun j h => by
        by_cases e : j = i
        · subst e; exact c
        · exact hj j (by omega))
      have hok := impl_WaitsBefore.ok_at ha i (by omega)
      have hsl := impl_WaitsBefore.sum_le ha i (by omega)
      refine ⟨v, Ev.step (fun k => by rw [spec_WaitsBefore.l1]) ?_, h2⟩
      refine evT (by omega) (evT (by omega) (evF c (evT hok.1 (evT hok.2.1 ?_))))
      rw [show wrap64 ((i : Int) + 1) = ((i + 1 : Nat) : Int) by rw [w64 (by omega) (by omega)]; omega, w64 (by omega) (by omega)]
      exact hv
theorem specWaits_l0 (js : List S50) (hjs : js.length ≤ 1000000000000) (l : List Int) (hl : l.length ≤ 1000000000000) (a : Int) : ∀ d i : Nat, i + d = l.length → (∀ j : Nat, j < i → impl_WaitsBefore.okI js (rd l (j : Int)) = true) →
    ∃ v, Ev (fun k => spec_WaitsBefore.l0 k js l a 0 (i : Int)) v ∧ WB js l a v := by
  intro d
  induction d with
  | zero =>
    intro i hi hj
    have ha : l.all (impl_WaitsBefore.okI js) = true := by
      rw [List.all_eq_true]
      intro x hx
      obtain ⟨j, hj2, rfl⟩ := List.getElem_of_mem hx
      have := hj j (by omega)
      rwa [rd_at l j hj2] at this
    obtain ⟨v, hv, h2⟩ := specWaits_l1 js l hl a ha l.length 0 (by omega) (fun j h => by omega)
    refine ⟨v, Ev.step (fun k => by rw [spec_WaitsBefore.l0]) ?_, h2⟩
    exact evF (by omega) hv
  | succ d ih =>
    intro i hi hj
    have bad : impl_WaitsBefore.okI js (rd l (i : Int)) = false → WB js l a (-1) := fun hb => by
      refine .inl ⟨rfl, .inl ?_⟩
      rw [Bool.eq_false_iff]
      intro hall
      rw [List.all_eq_true] at hall
      have := hall _ (List.getElem_mem (show i < l.length by omega))
      rw [rd_at l i (by omega)] at hb
      rw [hb] at this
      cases this
    by_cases c1 : 0 ≤ rd l (i : Int) ∧ rd l (i : Int) ≤ (js.length : Int) - 1
    · by_cases c2 : 1 ≤ (rd_T50 js (rd l (i : Int))).f1 ∧ (rd_T50 js (rd l (i : Int))).f1 ≤ 9
      · obtain ⟨v, hv, h2⟩ := ih (i + 1) (by omega) (fun j h => by
          by_cases e : j = i
          · subst e; simp [impl_WaitsBefore.okI, c1, c2]
          · exact hj j (by omega))
        refine ⟨v, Ev.step (fun k => by rw [spec_WaitsBefore.l0]) ?_, h2⟩
        refine evT (by omega) (evT (by omega) (evS (l1In_eq _ _ _) ?_))
        rw [w64 (x := (js.length : Int) - 1) (by omega) (by omega), show wrap64 ((i : Int) + 1) = ((i + 1 : Nat) : Int) by rw [w64 (by omega) (by omega)]; omega]
        exact evT (decide_eq_true c1) (evT c1.1 (evT (by omega) (evS (l1In_eq _ _ _) (evT (decide_eq_true c2) hv))))
      · refine ⟨-1, Ev.step (fun k => by rw [spec_WaitsBefore.l0]) ?_, bad (by unfold impl_WaitsBefore.okI; rw [decide_eq_false c2, Bool.and_false])⟩
        refine evT (by omega) (evT (by omega) (evS (l1In_eq _ _ _) ?_))
        rw [w64 (x := (js.length : Int) - 1) (by omega) (by omega)]
        exact evT (decide_eq_true c1) (evT c1.1 (evT (by omega) (evS (l1In_eq _ _ _) (evF (by simp only [decide_eq_true_eq]; exact c2) (Ev.now _)))))
    · refine ⟨-1, Ev.step (fun k => by rw [spec_WaitsBefore.l0]) ?_, bad (by unfold impl_WaitsBefore.okI; rw [decide_eq_false c1, Bool.false_and])⟩
      refine evT (by omega) (evT (by omega) (evS (l1In_eq _ _ _) ?_))
      rw [w64 (x := (js.length : Int) - 1) (by omega) (by omega)]
      exact evF (by simp only [decide_eq_true_eq]; exact c1) (Ev.now _)
theorem waits_ev (js : List S50) (hjs : js.length ≤ 1000000000000) (l : List Int) (hl : l.length ≤ 1000000000000) (a : Int) : ∃ v, Ev (fun k => impl_WaitsBefore.f k js l a) v ∧ Ev (fun k => spec_WaitsBefore.f k js l a) v ∧ WB js l a v := by
  obtain ⟨v, hv, h1⟩ := implWaits_ev js l hl a
  obtain ⟨u, hu, h2⟩ := specWaits_l0 js hjs l hl a l.length 0 (by omega) (fun j h => by omega)
  refine ⟨v, hv, ?_, h1⟩
  simp only [spec_WaitsBefore.f]
  rw [h1.uniq h2]
  exact hu

end Go.Proofs.Ytecdngoknkmncaa.Q
