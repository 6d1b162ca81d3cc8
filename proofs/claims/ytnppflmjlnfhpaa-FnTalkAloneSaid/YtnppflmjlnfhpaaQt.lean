/- Plain lemmas on what the printed functions compute (seat Ytnppflmjlnfhpaa, module Qt). Conditions: each lemma's own. -/
import Derived.Test.YtnppflmjlnfhpaaQa
import Derived.Test.YtnppflmjlnfhpaaPA0
import Derived.Test.YtnppflmjlnfhpaaPA2
import Derived.Test.YtnppflmjlnfhpaaPA3
set_option linter.unusedVariables false
set_option linter.unusedSimpArgs false
namespace Go.Proofs.Ytnppflmjlnfhpaa.Q
open Go Go.RowKit Go.Proofs.Ytnppflmjlnfhpaa.PA Go.Proofs.YtnppflmjlnfhpaaW.PrintWords Go.Proofs.YtnppflmjlnfhpaaW.PrintLast

/-! ### the talk: both programs tell the same -/
/-- what a talk is told has to be -/
def Tc (l0 l1 : List Int) (a2 : Int) : Prop := spec_RunTalk.b1 l0 = true ∧ (l1.length : Int) ≤ 200 ∧ spec_RunTalk.b3 l1 = true ∧ spec_RunTalk.inB a2 0 2000 = true
theorem Tc.q {l0 l1 : List Int} {a2 : Int} (h : Tc l0 l1 a2) : l0.length ≤ 6 ∧ ∀ x ∈ l0, 0 ≤ x ∧ x ≤ 9 := by
  have h1 := h.1
  unfold spec_RunTalk.b1 at h1
  rw [Bool.and_eq_true, decide_eq_true_eq, List.all_eq_true] at h1
  exact ⟨by omega, fun x hx => by have := h1.2 x hx; rw [decide_eq_true_eq] at this; exact this⟩
theorem Tc.a {l0 l1 : List Int} {a2 : Int} (h : Tc l0 l1 a2) : 0 ≤ a2 ∧ a2 ≤ 2000 := of_decide_eq_true h.2.2.2
def st0 (l0 l1 : List Int) : Sk.Sp := ⟨[], 0, 0, l0, List.replicate l0.length 0, List.replicate l0.length 0, l1⟩
theorem ab0 (l0 l1 : List Int) : Rk.ab ⟨l0.map Tk.mk, [], 0, 0, l1⟩ = st0 l0 l1 := by
  unfold Rk.ab st0
  have e0 : (l0.map Tk.mk).map (·.f0) = l0 := by rw [List.map_map]; exact (List.map_congr_left (fun _ _ => rfl)).trans (List.map_id l0)
  have e1 : (l0.map Tk.mk).map (·.f1) = List.replicate l0.length 0 := by rw [List.map_map]; exact (List.map_congr_left (fun _ _ => rfl)).trans List.map_const'
  have e2 : (l0.map Tk.mk).map (·.f2) = List.replicate l0.length 0 := by rw [List.map_map]; exact (List.map_congr_left (fun _ _ => rfl)).trans List.map_const'
  simp only [e0, e1, e2]
theorem good0 {l0 l1 : List Int} {a2 : Int} (h : Tc l0 l1 a2) : Rk.Good ⟨l0.map Tk.mk, [], 0, 0, l1⟩ := by
  have hg : ∀ i : Nat, 0 ≤ ((l0.map Tk.mk).getD i Rk.zz).f1 ∧ 0 ≤ ((l0.map Tk.mk).getD i Rk.zz).f0 := by
    intro i
    rw [List.getD_eq_getElem?_getD, List.getElem?_map]
    by_cases hi : i < l0.length
    · rw [List.getElem?_eq_getElem hi]
      exact ⟨Int.le_refl _, (h.q.2 _ (List.getElem_mem hi)).1⟩
    · rw [List.getElem?_eq_none (by omega)]
      exact ⟨Int.le_refl _, Int.le_refl _⟩
  refine ⟨fun i => (hg i).1, fun i => (hg i).2, fun d hd => ?_⟩
  have h3 := h.2.2.1
  unfold spec_RunTalk.b3 at h3
  rw [List.all_eq_true] at h3
  have := h3 d hd
  rw [decide_eq_true_eq] at this
  exact this
theorem talk_fin {l0 l1 : List Int} {a2 : Int} (h : Tc l0 l1 a2) : Rk.ab (impl_RunTalk.fin l0 l1 a2) = spec_RunTalk.fin l0 l1 a2 ∧ Rk.Good (impl_RunTalk.fin l0 l1 a2) := by
  obtain ⟨h1, h2⟩ := Rk.run_ab a2.toNat _ (good0 h)
  refine ⟨?_, h2⟩
  unfold impl_RunTalk.fin spec_RunTalk.fin
  rw [h1, ab0]
  show Sk.run (l0.map Tk.mk).length _ _ = _
  rw [List.length_map]
  rfl
theorem run_inv (n : Nat) : ∀ (k : Nat) (s : Sk.Sp), Sk.Inv n s → s.slots + k ≤ 2000 → Sk.Inv n (Sk.run n k s) := by
  intro k
  induction k with
  | zero => intro s h _; exact h
  | succ k ih =>
    intro s h hk
    rw [Sk.run]
    split
    · obtain ⟨h1, h2⟩ := Sk.slot_inv h (by omega)
      exact ih _ h1 (by rw [h2]; omega)
    · exact h
theorem fin_inv {l0 l1 : List Int} {a2 : Int} (h : Tc l0 l1 a2) : Sk.Inv l0.length (spec_RunTalk.fin l0 l1 a2) :=
  run_inv l0.length a2.toNat _ (spec_RunTalk.inv0 h.1 h.2.2.1) (by have := h.a; show (0 : Int) + _ ≤ 2000; omega)
theorem talk_ev (l0 l1 : List Int) (a2 : Int) : ∃ (p : Sk.Sp) (dn ok : Bool), impl_RunTalk.f l0 l1 a2 = some (p.order, p.hits, p.slots, dn, ok) ∧ spec_RunTalk.f l0 l1 a2 = some (p.order, p.hits, p.slots, dn, ok) ∧ p.order.length ≤ 2000 ∧
    (ok = true → Tc l0 l1 a2 ∧ p = spec_RunTalk.fin l0 l1 a2 ∧ dn = decide (p.qs.sum = 0)) ∧ (ok = false → ¬ Tc l0 l1 a2) := by
  by_cases h : Tc l0 l1 a2
  · have hci : impl_RunTalk.b1 l0 = true ∧ (l1.length : Int) ≤ 200 ∧ impl_RunTalk.b3 l1 = true ∧ impl_RunTalk.inB a2 0 2000 = true := h
    have hcs : spec_RunTalk.b1 l0 = true ∧ (l1.length : Int) ≤ 200 ∧ spec_RunTalk.b3 l1 = true ∧ spec_RunTalk.inB a2 0 2000 = true := h
    obtain ⟨h1, h2⟩ := talk_fin h
    have hi := fin_inv h
    have ho := hi.od
    have hs := hi.sl
    have hb := h2.busy
    rw [h1] at hb
    have e4 : (!(impl_RunTalk.fin l0 l1 a2).ts.any Tk.busyP) = decide ((spec_RunTalk.fin l0 l1 a2).qs.sum = 0) := by
      rw [hb.2]
      by_cases c : 0 < (spec_RunTalk.fin l0 l1 a2).qs.sum
      · rw [decide_eq_true c, decide_eq_false (by omega)]; rfl
      · rw [decide_eq_false c, decide_eq_true (show (spec_RunTalk.fin l0 l1 a2).qs.sum = 0 by have := hb.1; omega)]; rfl
    refine ⟨spec_RunTalk.fin l0 l1 a2, decide ((spec_RunTalk.fin l0 l1 a2).qs.sum = 0), true, ?_, ?_, by omega, fun _ => ⟨h, rfl, rfl⟩, fun h => by cases h⟩
    · unfold impl_RunTalk.f
      rw [if_pos hci, e4, ← h1]
      rfl
    · unfold spec_RunTalk.f
      rw [if_pos hcs]
  · have hci : ¬ (impl_RunTalk.b1 l0 = true ∧ (l1.length : Int) ≤ 200 ∧ impl_RunTalk.b3 l1 = true ∧ impl_RunTalk.inB a2 0 2000 = true) := h
    have hcs : ¬ (spec_RunTalk.b1 l0 = true ∧ (l1.length : Int) ≤ 200 ∧ spec_RunTalk.b3 l1 = true ∧ spec_RunTalk.inB a2 0 2000 = true) := h
    refine ⟨⟨[], 0, 0, [], [], [], []⟩, false, false, ?_, ?_, by simp, (fun h => by cases h), fun _ => h⟩
    · unfold impl_RunTalk.f
      rw [if_neg hci]
    · unfold spec_RunTalk.f
      rw [if_neg hcs]

end Go.Proofs.Ytnppflmjlnfhpaa.Q
