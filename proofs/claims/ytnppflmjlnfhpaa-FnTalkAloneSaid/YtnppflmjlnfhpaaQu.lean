/- Plain lemmas on what the printed functions compute (seat Ytnppflmjlnfhpaa, module Qu). Conditions: each lemma's own. -/
import Derived.Test.YtnppflmjlnfhpaaQt
import Derived.Test.YtnppflmjlnfhpaaPA0
import Derived.Test.YtnppflmjlnfhpaaPA4
import Derived.Test.YtnppflmjlnfhpaaPA5
set_option linter.unusedVariables false
set_option linter.unusedSimpArgs false
namespace Go.Proofs.Ytnppflmjlnfhpaa.Q
open Go Go.RowKit Go.Proofs.Ytnppflmjlnfhpaa.PA Go.Proofs.YtnppflmjlnfhpaaW.PrintWords Go.Proofs.YtnppflmjlnfhpaaW.PrintLast

theorem open_ev (l : List Int) (hb : ∀ x ∈ l, (Lit.int .u8 x).wf = true) : ∃ b, spec_l21Open.f l = some (b, 0) ∧ Bs b := by
  unfold spec_l21Open.f
  by_cases h : (l.length : Int) > 2000
  · refine ⟨l.take 2000, by rw [if_pos h, if_pos (by omega)], by simp; omega, fun x hx => lit_u8 (hb x (List.mem_of_mem_take hx))⟩
  · exact ⟨l, by rw [if_neg h], by omega, fun x hx => lit_u8 (hb x hx)⟩
theorem pick_ev (l : List Int) (hl : Bs l) (p n : Int) (hp : 0 ≤ p) (hp2 : p ≤ 500000) (hn : n ≤ 1000000000) :
    ∃ v, Ev (fun k => spec_l21Rd_pick.f k l p n) (v, p + 1) ∧ 0 ≤ v ∧ (1 ≤ n → v < n) := by
  obtain ⟨hl1, hb⟩ := hl
  have e1 : wrap64 (p + 1) = p + 1 := w64 (by omega) (by omega)
  simp only [spec_l21Rd_pick.f, e1]
  by_cases h1 : n < 1
  · refine ⟨0, evT h1 (Ev.step (fun k => by rw [spec_l21Rd_pick.j0]) (evT rfl (Ev.now _))), by omega, by omega⟩
  · by_cases h2 : l.length = 0
    · have e2 : ((l.length : Int) == 0) = true := by simpa using h2
      refine ⟨0, evF h1 (Ev.step (fun k => by rw [spec_l21Rd_pick.j0]) (evT e2 (Ev.now _))), by omega, by omega⟩
    · have e2 : ¬ (((l.length : Int) == 0) = true) := by simpa using h2
      have e3 : wrap64 (p + 1 - 1) = p := by rw [w64 (by omega) (by omega)]; omega
      by_cases h3 : p < (l.length : Int)
      · have hr := hb _ (rd_mem l p hp h3)
        have hv := tmod_bounds (wrap64 (rd l p)) n (by rw [w64 (by omega) (by omega)]; omega) (by omega)
        refine ⟨Int.tmod (wrap64 (rd l p)) n, evF h1 (Ev.step (fun k => by rw [spec_l21Rd_pick.j0]) ?_), hv.1, fun _ => hv.2⟩
        rw [e3]
        exact evF e2 (evT h3 (evT hp (evF (by omega) (Ev.now _))))
      · have e4 : wrap64 (p * 7) = p * 7 := w64 (by omega) (by omega)
        have e5 : wrap64 (p * 7 + 3) = p * 7 + 3 := w64 (by omega) (by omega)
        have b1 := tmod_bounds p (l.length : Int) hp (by omega)
        have b2 := tmod_bounds (p * 7 + 3) (l.length : Int) (by omega) (by omega)
        have r1 := hb _ (rd_mem l _ b1.1 b1.2)
        have r2 := hb _ (rd_mem l _ b2.1 b2.2)
        have q1 := tdiv_bounds p hp (l.length : Int) (by omega)
        have hx := mix_ok _ _ p _ r1 r2 hp (by omega) q1.1 (by omega)
        generalize hX : wrap64 ((wrap64 ((wrap64 ((wrap64 ((wrap64 (rd l (Int.tmod p (l.length : Int)))) * 131)) + (wrap64 ((wrap64 (rd l (Int.tmod (p * 7 + 3) (l.length : Int)))) * 1117)))) + (wrap64 (p * 29)))) + (wrap64 ((wrap64 (Int.tdiv p (l.length : Int))) * 53))) = X at hx
        have q2 := tdiv_bounds X hx.1 64 (by omega)
        have q3 : wrap64 (X.tdiv 64) = X.tdiv 64 := w64 (by omega) (by omega)
        have hz := bits_xor_i64_nonneg X (wrap64 (X.tdiv 64)) hx.1 (by omega) (by omega) (by omega)
        have hv := tmod_bounds _ n hz (by omega)
        refine ⟨Int.tmod (Go.bits .xor .i64 X (wrap64 (X.tdiv 64))) n, evF h1 (Ev.step (fun k => by rw [spec_l21Rd_pick.j0]) ?_), hv.1, fun _ => hv.2⟩
        simp only [e3, e4, e5, hX]
        exact evF e2 (evF h3 (evF (by omega) (evT b1.1 (evT b1.2 (evT b2.1 (evT b2.2 (evF (by omega) (Ev.now _))))))))
theorem num_ev (l : List Int) (hl : Bs l) (p : Int) (xs : List Int) (hp : 0 ≤ p) (hp2 : p ≤ 500000) (hn : 1 ≤ xs.length) (hn2 : xs.length ≤ 1000) :
    ∃ v, Ev (fun k => spec_l21Rd_num.f k l p xs) (v, p + 1) ∧ v ∈ xs := by
  obtain ⟨v, h, h0, h1⟩ := pick_ev l hl p (xs.length : Int) hp hp2 (by omega)
  refine ⟨rd xs v, ?_, rd_mem xs v h0 (h1 (by omega))⟩
  simp only [spec_l21Rd_num.f]
  exact Ev.bind h (evT h0 (evT (h1 (by omega)) (Ev.now _)))

/-! ### lists that are compared, copied, marked -/
theorem wnInts_l0 (a b : List Int) (hl : a.length = b.length) (hb : a.length ≤ 1000000000000) : ∀ d i : Nat, i + d = a.length →
    Ev (fun k => laws_wnInts.l0 k b a (a.length : Int) (i : Int)) (decide (a.drop i = b.drop i)) := by
  intro d
  induction d with
  | zero =>
    intro i hi
    refine Ev.step (fun k => by rw [laws_wnInts.l0]) ?_
    refine evF (by omega) (evE (Ev.now _) ?_)
    rw [List.drop_of_length_le (by omega), List.drop_of_length_le (by omega)]
    simp
  | succ d ih =>
    intro i hi
    have ha : a.drop i = a[i]'(by omega) :: a.drop (i + 1) := List.drop_eq_getElem_cons (by omega)
    have hb' : b.drop i = b[i]'(by omega) :: b.drop (i + 1) := List.drop_eq_getElem_cons (by omega)
    have e : wrap64 ((i : Int) + 1) = ((i + 1 : Nat) : Int) := by rw [w64 (by omega) (by omega)]; omega
    refine Ev.step (fun k => by rw [laws_wnInts.l0]) ?_
    refine evT (by omega) (evT (by omega) (evT (by omega) (evT (by omega) ?_)))
    rw [rd_at b i (by omega), rd_at a i (by omega), e]
    by_cases h : b[i]'(by omega) = a[i]'(by omega)
    · refine evT h (evE (ih (i + 1) (by omega)) ?_)
      rw [ha, hb']
      exact decide_eq_decide.2 ⟨fun e => by rw [h, e], fun e => (List.cons.inj e).2⟩
    · refine evF h (evE (Ev.now _) ?_)
      rw [ha, hb']
      exact (decide_eq_false (fun e => h (List.cons.inj e).1.symm)).symm
theorem wnInts_ev (a b : List Int) (hb : a.length ≤ 1000000000000) : Ev (fun k => laws_wnInts.f k a b) (decide (a = b)) := by
  simp only [laws_wnInts.f]
  by_cases h : a.length = b.length
  · exact evT (by omega) (evE (wnInts_l0 a b h hb a.length 0 (by omega)) (by simp))
  · exact evF (by omega) (evE (Ev.now _) (by simp; intro e; exact h (by rw [e])))

/-! ### draws of queues, of the token, of turns, of orders -/
theorem l9Queues_l0 (b : List Int) (hl : Bs b) : ∀ (d : Nat) (acc : List Int) (p : Int), acc.length + d ≤ 6 → 0 ≤ p → p + d ≤ 400000 → (∀ x ∈ acc, -1 ≤ x ∧ x ≤ 10) →
    ∃ xs q, Ev (fun k => spec_l9Queues.l0 k acc (d : Int) b p) (xs, q) ∧ xs.length ≤ 7 ∧ (∀ x ∈ xs, -1 ≤ x ∧ x ≤ 10) ∧ p ≤ q ∧ q ≤ p + d + 2 := by
  intro d
  induction d with
  | zero =>
    intro acc p ha hp hp2 hx
    obtain ⟨v, hv, h0, h1⟩ := pick_ev b hl p 40 hp (by omega) (by omega)
    by_cases c0 : v = 0
    · obtain ⟨u, hu, hm⟩ := num_ev b hl (p + 1) ([10, (-1)] : List Int) (by omega) (by omega) (by simp) (by simp)
      have hub : -1 ≤ u ∧ u ≤ 10 := by simp at hm; omega
      refine ⟨acc ++ [u], p + 1 + 1, ?_, by simp; omega, ?_, by omega, by omega⟩
      · refine Ev.step (fun k => by rw [spec_l9Queues.l0]) ?_
        refine evF (by omega) (Ev.bind hv ?_)
        refine evT c0 (Ev.bind hu ?_)
        exact evT (by omega) (Ev.now _)
      intro x hx'
      rcases List.mem_append.1 hx' with h | h
      · exact hx x h
      · simp at h; subst h; exact hub
    · by_cases c1 : v = 1
      · refine ⟨List.replicate 7 0, p + 1, ?_, by rw [List.length_replicate]; omega, ?_, by omega, by omega⟩
        · refine Ev.step (fun k => by rw [spec_l9Queues.l0]) ?_
          refine evF (by omega) (Ev.bind hv ?_)
          refine evF c0 ?_
          refine evT c1 ?_
          exact evT (by omega) (Ev.now _)
        intro x hx'
        have := (List.mem_replicate.1 hx').2
        omega
      · refine ⟨acc, p + 1, ?_, by omega, hx, by omega, by omega⟩
        refine Ev.step (fun k => by rw [spec_l9Queues.l0]) ?_
        refine evF (by omega) (Ev.bind hv ?_)
        refine evF c0 ?_
        exact evF c1 (Ev.now _)
  | succ d ih =>
    intro acc p ha hp hp2 hx
    obtain ⟨v, hv, hm⟩ := num_ev b hl p ([1, 2, 0, 3, 9] : List Int) hp (by omega) (by simp) (by simp)
    have hvb : -1 ≤ v ∧ v ≤ 10 := by simp at hm; omega
    obtain ⟨xs, q, h, k1, k2, k3, k4⟩ := ih (acc ++ [v]) (p + 1) (by simp; omega) (by omega) (by omega) (by
      intro x hx'
      rcases List.mem_append.1 hx' with h | h
      · exact hx x h
      · simp at h; subst h; exact hvb)
    refine ⟨xs, q, ?_, k1, k2, by omega, by omega⟩
    refine Ev.step (fun k => by rw [spec_l9Queues.l0]) ?_
    refine evT (by omega) (Ev.bind hv ?_)
    refine evT (by omega) ?_
    rw [show wrap64 (((d + 1 : Nat) : Int) - 1) = (d : Int) by rw [w64 (by omega) (by omega)]; omega]
    exact h
theorem l9Queues_ev (b : List Int) (hl : Bs b) (p : Int) (hp : 0 ≤ p) (hp2 : p ≤ 300000) :
    ∃ xs q, Ev (fun k => spec_l9Queues.f k b p) (xs, q) ∧ xs.length ≤ 7 ∧ (∀ x ∈ xs, -1 ≤ x ∧ x ≤ 10) ∧ p ≤ q ∧ q ≤ p + 20 := by
  obtain ⟨v, hv, hm⟩ := num_ev b hl p ([3, 2, 4, 6, 1, 0] : List Int) hp (by omega) (by simp) (by simp)
  have hb : 0 ≤ v ∧ v ≤ 6 := by simp at hm; omega
  obtain ⟨n, rfl⟩ := Int.eq_ofNat_of_zero_le hb.1
  obtain ⟨xs, q, h, k1, k2, k3, k4⟩ := l9Queues_l0 b hl n [] (p + 1) (by simp; omega) (by omega) (by omega) (by simp)
  refine ⟨xs, q, ?_, k1, k2, by omega, by omega⟩
  simp only [spec_l9Queues.f]
  exact Ev.bind hv h
theorem drawTalk_l0 (b : List Int) (hl : Bs b) (qs : List Int) : ∀ (d : Nat) (acc : List Int) (p : Int), acc.length + d ≤ 100 → 0 ≤ p → p + d ≤ 400000 →
    ∃ xs m, Ev (fun k => spec_DrawRunTalk.l0 k qs acc (d : Int) b p) (qs, xs, m) := by
  intro d
  induction d with
  | zero =>
    intro acc p ha hp hp2
    obtain ⟨v, hv, h0, h1⟩ := pick_ev b hl p 40 hp (by omega) (by omega)
    obtain ⟨m, hm, _⟩ := num_ev b hl (p + 1) ([60, 300, 5, 2000, 1, 0, (-1), 2001] : List Int) (by omega) (by omega) (by simp) (by simp)
    by_cases c0 : v = 0
    · refine ⟨acc ++ [1001], m, ?_⟩
      refine Ev.step (fun k => by rw [spec_DrawRunTalk.l0]) ?_
      exact evF (by omega) (Ev.bind hv (evT c0 (evT (by omega) (Ev.bind hm (Ev.now _)))))
    · refine ⟨acc, m, ?_⟩
      refine Ev.step (fun k => by rw [spec_DrawRunTalk.l0]) ?_
      exact evF (by omega) (Ev.bind hv (evF c0 (Ev.bind hm (Ev.now _))))
  | succ d ih =>
    intro acc p ha hp hp2
    obtain ⟨v, hv, h0, h1⟩ := pick_ev b hl p 32 hp (by omega) (by omega)
    obtain ⟨xs, m, h⟩ := ih (acc ++ [v]) (p + 1) (by simp; omega) (by omega) (by omega)
    refine ⟨xs, m, ?_⟩
    refine Ev.step (fun k => by rw [spec_DrawRunTalk.l0]) ?_
    refine evT (by omega) (Ev.bind hv ?_)
    refine evT (by omega) ?_
    rw [show wrap64 (((d + 1 : Nat) : Int) - 1) = (d : Int) by rw [w64 (by omega) (by omega)]; omega]
    exact h
theorem drawTalk_ev (l : List Int) (hb : ∀ x ∈ l, (Lit.int .u8 x).wf = true) : ∃ qs ds m, Ev (fun k => spec_DrawRunTalk.f k l) (qs, ds, m) ∧ qs.length ≤ 7 := by
  obtain ⟨b, ho, hl⟩ := open_ev l hb
  obtain ⟨qs, q, hd, k1, k2, k3, k4⟩ := l9Queues_ev b hl 0 (by omega) (by omega)
  obtain ⟨c, hc, hcm⟩ := num_ev b hl q ([6, 0, 20, 40] : List Int) (by omega) (by omega) (by simp) (by simp)
  have hcb : 0 ≤ c ∧ c ≤ 40 := by simp at hcm; omega
  obtain ⟨n, rfl⟩ := Int.eq_ofNat_of_zero_le hcb.1
  obtain ⟨xs, m, h⟩ := drawTalk_l0 b hl qs n [] (q + 1) (by simp; omega) (by omega) (by omega)
  refine ⟨qs, xs, m, ?_, k1⟩
  simp only [spec_DrawRunTalk.f]
  exact evS ho (Ev.bind hd (Ev.bind hc h))

/-! ### what a run keeps: who sent, how many hits, how many slots -/
theorem hits_oq : ∀ (l : List Int) (s : Sk.Sp), (l.foldl Sk.hit1 s).order = s.order ∧ (l.foldl Sk.hit1 s).qs = s.qs ∧ (l.foldl Sk.hit1 s).hits = s.hits := by
  intro l
  induction l with
  | nil => intro s; exact ⟨rfl, rfl, rfl⟩
  | cons k l ih => intro s; rw [List.foldl_cons]; exact ih (Sk.hit1 s k)
theorem decL_oq (old : List Int) (s : Sk.Sp) : ∀ j, (Sk.decL old s j).order = s.order ∧ (Sk.decL old s j).qs = s.qs ∧ (Sk.decL old s j).hits = s.hits := by
  intro j
  induction j with
  | zero => exact ⟨rfl, rfl, rfl⟩
  | succ j ih =>
    rw [Sk.decL]
    unfold Sk.decS
    split
    · exact ih
    · exact ih
theorem slot_oq (n : Nat) (s : Sk.Sp) : (∃ j : Nat, j < n ∧ 0 < s.qs.getD j 0 ∧ (Sk.slot n s).order = s.order ++ [(j : Int)] ∧ (Sk.slot n s).qs = s.qs.set j (s.qs.getD j 0 - 1) ∧ (Sk.slot n s).hits = s.hits) ∨
    ((Sk.slot n s).order = s.order ∧ (Sk.slot n s).qs = s.qs ∧ ((Sk.slot n s).hits = s.hits ∨ (Sk.slot n s).hits = s.hits + 1)) := by
  obtain ⟨h1, h2, h3⟩ := decL_oq s.ws (Sk.mid n s) n
  show (∃ j : Nat, j < n ∧ 0 < s.qs.getD j 0 ∧ (Sk.decL s.ws (Sk.mid n s) n).order = _ ∧ (Sk.decL s.ws (Sk.mid n s) n).qs = _ ∧ (Sk.decL s.ws (Sk.mid n s) n).hits = _) ∨
    ((Sk.decL s.ws (Sk.mid n s) n).order = _ ∧ (Sk.decL s.ws (Sk.mid n s) n).qs = _ ∧ ((Sk.decL s.ws (Sk.mid n s) n).hits = _ ∨ (Sk.decL s.ws (Sk.mid n s) n).hits = _))
  rw [h1, h2, h3]
  clear h1 h2 h3
  unfold Sk.mid
  by_cases c1 : (Sk.now s.qs s.ws n).length = 1
  · rw [if_pos c1]
    left
    have hx : (Sk.now s.qs s.ws n).headD 0 ∈ Sk.now s.qs s.ws n := by
      match Sk.now s.qs s.ws n, c1 with
      | x :: _, _ => simp
    obtain ⟨j, hj, hjl, hp⟩ := Sk.now_mem _ hx
    rw [hj, Int.toNat_natCast]
    unfold Sk.nowP at hp
    rw [Bool.and_eq_true, decide_eq_true_eq] at hp
    exact ⟨j, hjl, hp.1, rfl, rfl, rfl⟩
  · rw [if_neg c1]
    right
    by_cases c2 : 1 < (Sk.now s.qs s.ws n).length
    · rw [if_pos c2]
      obtain ⟨k1, k2, k3⟩ := hits_oq (Sk.now s.qs s.ws n) { s with hits := s.hits + 1 }
      exact ⟨k1, k2, .inr k3⟩
    · rw [if_neg c2]
      exact ⟨rfl, rfl, .inl rfl⟩
theorem run_add (n : Nat) : ∀ (a b : Nat) (s : Sk.Sp), Sk.run n (a + b) s = Sk.run n b (Sk.run n a s) := by
  intro a
  induction a with
  | zero => intro b s; rw [Nat.zero_add]; rfl
  | succ a ih =>
    intro b s
    rw [show a + 1 + b = (a + b) + 1 by omega, Sk.run, Sk.run]
    by_cases c : 0 < s.qs.sum
    · rw [if_pos c, if_pos c, ih]
    · rw [if_neg c, if_neg c, Sk.run_stop n c]
theorem run_pre (n : Nat) : ∀ (k : Nat) (s : Sk.Sp), (∃ t, (Sk.run n k s).order = s.order ++ t) ∧ s.hits ≤ (Sk.run n k s).hits ∧ (Sk.run n k s).slots ≤ s.slots + k := by
  intro k
  induction k with
  | zero => intro s; exact ⟨⟨[], by rw [List.append_nil]; rfl⟩, Int.le_refl _, by show s.slots ≤ _; omega⟩
  | succ k ih =>
    intro s
    rw [Sk.run]
    by_cases c : 0 < s.qs.sum
    · rw [if_pos c]
      obtain ⟨⟨t, h1⟩, h2, h3⟩ := ih (Sk.slot n s)
      have h4 : (Sk.slot n s).slots = s.slots + 1 := rfl
      rcases slot_oq n s with ⟨j, _, _, ho, _, hh⟩ | ⟨ho, _, hh⟩
      · exact ⟨⟨(j : Int) :: t, by rw [h1, ho, List.append_assoc]; rfl⟩, by omega, by omega⟩
      · exact ⟨⟨t, by rw [h1, ho]⟩, by omega, by omega⟩
    · rw [if_neg c]
      exact ⟨⟨[], by rw [List.append_nil]⟩, Int.le_refl _, by omega⟩

end Go.Proofs.Ytnppflmjlnfhpaa.Q
