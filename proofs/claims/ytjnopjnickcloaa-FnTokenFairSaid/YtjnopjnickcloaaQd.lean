/- Plain lemmas on what the printed functions compute (seat Ytjnopjnickcloaa, module Qd). Conditions: each lemma's own. -/
import Derived.Test.YtjnopjnickcloaaQc
import Derived.Test.YtjnopjnickcloaaPA0
import Derived.Test.YtjnopjnickcloaaPA16
import Derived.Test.YtjnopjnickcloaaPA9
set_option linter.unusedVariables false
set_option linter.unusedSimpArgs false
namespace Go.Proofs.Ytjnopjnickcloaa.Q
open Go Go.RowKit Go.Proofs.Ytjnopjnickcloaa.PA Go.Proofs.YtjnopjnickcloaaW.PrintWords Go.Proofs.YtjnopjnickcloaaW.PrintLast

/-! ### draws of queues, of the token, of turns, of orders -/
theorem l9Queues_l0 (b : List Int) (hl : Bs b) : ∀ (d : Nat) (acc : List Int) (p : Int), acc.length + d ≤ 6 → 0 ≤ p → p + d ≤ 400000 → (∀ x ∈ acc, -1 ≤ x ∧ x ≤ 10) →
    ∃ xs q, Ev (fun k => spec_l9Queues.l0 k acc (d : Int) b p) (xs, q) ∧ xs.length ≤ 7 ∧ (∀ x ∈ xs, -1 ≤ x ∧ x ≤ 10) ∧ p ≤ q ∧ q ≤ p + d + 2 := by
  intro d
  induction d with
  | zero =>
    intro acc p ha hp hp2 hx
    obtain ⟨v, hv, h0, h1⟩ := pick_ev b hl p 40 hp (by omega) (by omega)
    by_cases c0 : v = 0
    · obtain ⟨u, hu, hm⟩ := num_ev b hl (p + 1) ([10, (-1)] : List Int) (by omega) (by omega) (by simp) (by simp)
      have hub : -1 ≤ u ∧ u ≤ 10 := by simp at hm; omega
      refine ⟨acc ++ [u], p + 1 + 1, ?_, by simp; omega, ?_, by omega, by omega⟩
      · refine Ev.step (fun k => by rw [spec_l9Queues.l0]) ?_
        refine evF (by omega) (Ev.bind hv ?_)
        refine evT c0 (Ev.bind hu ?_)
        exact evT (by omega) (Ev.now _)
      intro x hx'
      rcases List.mem_append.1 hx' with h | h
      · exact hx x h
      · simp at h; subst h; exact hub
    · by_cases c1 : v = 1
      · refine ⟨List.replicate 7 0, p + 1, ?_, by rw [List.length_replicate]; omega, ?_, by omega, by omega⟩
        · refine Ev.step (fun k => by rw [spec_l9Queues.l0]) ?_
          refine evF (by omega) (Ev.bind hv ?_)
          refine evF c0 ?_
          refine evT c1 ?_
          exact evT (by omega) (Ev.now _)
        intro x hx'
        have := (List.mem_replicate.1 hx').2
        omega
      · refine ⟨acc, p + 1, ?_, by omega, hx, by omega, by omega⟩
        refine Ev.step (fun k => by rw [spec_l9Queues.l0]) ?_
        refine evF (by omega) (Ev.bind hv ?_)
        refine evF c0 ?_
        exact evF c1 (Ev.now _)
  | succ d ih =>
    intro acc p ha hp hp2 hx
    obtain ⟨v, hv, hm⟩ := num_ev b hl p ([1, 2, 0, 3, 9] : List Int) hp (by omega) (by simp) (by simp)
    have hvb : -1 ≤ v ∧ v ≤ 10 := by simp at hm; omega
    obtain ⟨xs, q, h, k1, k2, k3, k4⟩ := ih (acc ++ [v]) (p + 1) (by simp; omega) (by omega) (by omega) (by
      intro x hx'
      rcases List.mem_append.1 hx' with h | h
      · exact hx x h
      · simp at h; subst h; exact hvb)
    refine ⟨xs, q, ?_, k1, k2, by omega, by omega⟩
    refine Ev.step (fun k => by rw [spec_l9Queues.l0]) ?_
    refine evT (by omega) (Ev.bind hv ?_)
    refine evT (by omega) ?_
    rw [show wrap64 (((d + 1 : Nat) : Int) - 1) = (d : Int) by rw [w64 (by omega) (by omega)]; omega]
    exact h
theorem l9Queues_ev (b : List Int) (hl : Bs b) (p : Int) (hp : 0 ≤ p) (hp2 : p ≤ 300000) :
    ∃ xs q, Ev (fun k => spec_l9Queues.f k b p) (xs, q) ∧ xs.length ≤ 7 ∧ (∀ x ∈ xs, -1 ≤ x ∧ x ≤ 10) ∧ p ≤ q ∧ q ≤ p + 20 := by
  obtain ⟨v, hv, hm⟩ := num_ev b hl p ([3, 2, 4, 6, 1, 0] : List Int) hp (by omega) (by simp) (by simp)
  have hb : 0 ≤ v ∧ v ≤ 6 := by simp at hm; omega
  obtain ⟨n, rfl⟩ := Int.eq_ofNat_of_zero_le hb.1
  obtain ⟨xs, q, h, k1, k2, k3, k4⟩ := l9Queues_l0 b hl n [] (p + 1) (by simp; omega) (by omega) (by omega) (by simp)
  refine ⟨xs, q, ?_, k1, k2, by omega, by omega⟩
  simp only [spec_l9Queues.f]
  exact Ev.bind hv h
theorem drawToken_ev (l : List Int) (hb : ∀ x ∈ l, (Lit.int .u8 x).wf = true) : ∃ qs hold slots, Ev (fun k => spec_DrawRunToken.f k l) (qs, hold, slots) ∧ qs.length ≤ 7 ∧ (∀ x ∈ qs, -1 ≤ x ∧ x ≤ 10) ∧ 0 ≤ hold ∧ hold ≤ 10 ∧ -1 ≤ slots ∧ slots ≤ 2000 := by
  obtain ⟨b, ho, hl⟩ := open_ev l hb
  obtain ⟨qs, q, hd, k1, k2, k3, k4⟩ := l9Queues_ev b hl 0 (by omega) (by omega)
  obtain ⟨m, hm, hmm⟩ := num_ev b hl q ([4, 4, 6] : List Int) (by omega) (by omega) (by simp) (by simp)
  have hmb : 4 ≤ m ∧ m ≤ 6 := by simp at hmm; omega
  obtain ⟨hold, hh, hhm⟩ := num_ev b hl (q + 1) (([1, 2, 3, 9, 0, 10] : List Int).take m.toNat) (by omega) (by omega) (by rw [List.length_take]; simp; omega) (by rw [List.length_take]; simp; omega)
  have hhb : 0 ≤ hold ∧ hold ≤ 10 := by have := List.mem_of_mem_take hhm; simp at this; omega
  obtain ⟨s, hs, hsm⟩ := num_ev b hl (q + 1 + 1) ([60, 300, 5, 2000, 1, 0, (-1)] : List Int) (by omega) (by omega) (by simp) (by simp)
  have hsb : -1 ≤ s ∧ s ≤ 2000 := by simp at hsm; omega
  refine ⟨qs, hold, s, ?_, k1, k2, hhb.1, hhb.2, hsb.1, hsb.2⟩
  simp only [spec_DrawRunToken.f]
  refine evS ho (Ev.bind hd (evS rfl (Ev.bind hm ?_)))
  refine evT (show 0 ≤ m by omega) (evT (show m ≤ ((([1, 2, 3, 9, 0, 10] : List Int).length : Nat) : Int) by simp; omega) ?_)
  exact Ev.bind hh (Ev.bind hs (Ev.now _))
theorem drawSent_l0 (b : List Int) (hl : Bs b) : ∀ (d : Nat) (acc : List Int) (p : Int), acc.length + d ≤ 20 → 0 ≤ p → p + d ≤ 400000 →
    ∃ xs m, Ev (fun k => spec_DrawSentBy.l0 k acc (d : Int) b p) (xs, m) ∧ xs.length ≤ 20 := by
  intro d
  induction d with
  | zero =>
    intro acc p ha hp hp2
    obtain ⟨v, hv, hm⟩ := num_ev b hl p ([3, 6, 0, 7, (-1), 4] : List Int) hp (by omega) (by simp) (by simp)
    refine ⟨acc, v, ?_, by omega⟩
    refine Ev.step (fun k => by rw [spec_DrawSentBy.l0]) ?_
    exact evF (by omega) (Ev.bind hv (Ev.now _))
  | succ d ih =>
    intro acc p ha hp hp2
    obtain ⟨v, hv, h0, h1⟩ := pick_ev b hl p 8 hp (by omega) (by omega)
    obtain ⟨xs, m, h, k1⟩ := ih (acc ++ [wrap64 (v - 1)]) (p + 1) (by simp; omega) (by omega) (by omega)
    refine ⟨xs, m, ?_, k1⟩
    refine Ev.step (fun k => by rw [spec_DrawSentBy.l0]) ?_
    refine evT (by omega) (Ev.bind hv ?_)
    refine evT (by omega) ?_
    rw [show wrap64 (((d + 1 : Nat) : Int) - 1) = (d : Int) by rw [w64 (by omega) (by omega)]; omega]
    exact h
theorem drawSent_ev (l : List Int) (hb : ∀ x ∈ l, (Lit.int .u8 x).wf = true) : ∃ xs m, Ev (fun k => spec_DrawSentBy.f k l) (xs, m) ∧ xs.length ≤ 20 := by
  obtain ⟨b, ho, hl⟩ := open_ev l hb
  obtain ⟨v, hv, h0, h1⟩ := pick_ev b hl 0 12 (by omega) (by omega) (by omega)
  have h1' := h1 (by omega)
  obtain ⟨n, rfl⟩ := Int.eq_ofNat_of_zero_le h0
  obtain ⟨xs, m, h, k1⟩ := drawSent_l0 b hl n [] (0 + 1) (by simp; omega) (by omega) (by omega)
  refine ⟨xs, m, ?_, k1⟩
  simp only [spec_DrawSentBy.f]
  exact evS ho (Ev.bind hv h)
theorem mostFrom_ge (l : List Int) : ∀ m : Int, m ≤ mostFrom l m ∧ ∀ x ∈ l, x ≤ mostFrom l m := by
  induction l with
  | nil => intro m; exact ⟨Int.le_refl _, by simp⟩
  | cons x xs ih =>
    intro m
    obtain ⟨h1, h2⟩ := ih (if m < x then x else m)
    have h3 : m ≤ (if m < x then x else m) ∧ x ≤ (if m < x then x else m) := by split <;> omega
    refine ⟨Int.le_trans h3.1 h1, fun y hy => ?_⟩
    rcases List.mem_cons.1 hy with rfl | hy
    · exact Int.le_trans h3.2 h1
    · exact h2 y hy
theorem mostFrom_hit (l : List Int) : ∀ m : Int, mostFrom l m = m ∨ mostFrom l m ∈ l := by
  induction l with
  | nil => intro m; exact .inl rfl
  | cons x xs ih =>
    intro m
    show mostFrom xs (if m < x then x else m) = m ∨ mostFrom xs (if m < x then x else m) ∈ x :: xs
    rcases ih (if m < x then x else m) with h | h
    · split at h
      · rename_i hc; rw [if_pos hc]; exact .inr (by rw [h]; simp)
      · rename_i hc; rw [if_neg hc]; exact .inl h
    · exact .inr (List.mem_cons_of_mem _ h)

end Go.Proofs.Ytjnopjnickcloaa.Q
