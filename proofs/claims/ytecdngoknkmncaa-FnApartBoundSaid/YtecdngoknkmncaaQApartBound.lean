/- Plain lemmas on what the printed functions compute (seat Ytecdngoknkmncaa, module QApartBound). Conditions: each lemma's own. -/
import Derived.Test.YtecdngoknkmncaaQb
import Derived.Test.YtecdngoknkmncaaPA0
import Derived.Test.YtecdngoknkmncaaPA11
import Derived.Test.YtecdngoknkmncaaPA6
set_option linter.unusedVariables false
set_option linter.unusedSimpArgs false
namespace Go.Proofs.Ytecdngoknkmncaa.Q
open Go Go.RowKit Go.Proofs.Ytecdngoknkmncaa.PA Go.Proofs.YtecdngoknkmncaaW.PrintWords Go.Proofs.YtecdngoknkmncaaW.PrintLast

theorem open_ev (l : List Int) (hb : ∀ x ∈ l, (Lit.int .u8 x).wf = true) : ∃ b, spec_l21Open.f l = some (b, 0) ∧ Bs b := by
  unfold spec_l21Open.f
  by_cases h : (l.length : Int) > 2000
  · refine ⟨l.take 2000, by rw [if_pos h, if_pos (by omega)], by simp; omega, fun x hx => lit_u8 (hb x (List.mem_of_mem_take hx))⟩
  · exact ⟨l, by rw [if_neg h], by omega, fun x hx => lit_u8 (hb x hx)⟩
theorem pick_ev (l : List Int) (hl : Bs l) (p n : Int) (hp : 0 ≤ p) (hp2 : p ≤ 500000) (hn : n ≤ 1000000000) :
    ∃ v, Ev (fun k => spec_l21Rd_pick.f k l p n) (v, p + 1) ∧ 0 ≤ v ∧ (1 ≤ n → v < n) := by
  obtain ⟨hl1, hb⟩ := hl
  have e1 : wrap64 (p + 1) = p + 1 := w64 (by omega) (by omega)
  simp only [spec_l21Rd_pick.f, e1]
  by_cases h1 : n < 1
  · refine ⟨0, evT h1 (Ev.step (fun k => by rw [spec_l21Rd_pick.j0]) (evT rfl (Ev.now _))), by omega, by omega⟩
  · by_cases h2 : l.length = 0
    · have e2 : ((l.length : Int) == 0) = true := by simpa using h2
      refine ⟨0, evF h1 (Ev.step (fun k => by rw [spec_l21Rd_pick.j0]) (evT e2 (Ev.now _))), by omega, by omega⟩
    · have e2 : ¬ (((l.length : Int) == 0) = true) := by simpa using h2
      have e3 : wrap64 (p + 1 - 1) = p := by rw [w64 (by omega) (by omega)]; omega
      by_cases h3 : p < (l.length : Int)
      · have hr := hb _ (rd_mem l p hp h3)
        have hv := tmod_bounds (wrap64 (rd l p)) n (by rw [w64 (by omega) (by omega)]; omega) (by omega)
        refine ⟨Int.tmod (wrap64 (rd l p)) n, evF h1 (Ev.step (fun k => by rw [spec_l21Rd_pick.j0]) ?_), hv.1, fun _ => hv.2⟩
        rw [e3]
        exact evF e2 (evT h3 (evT hp (evF (by omega) (Ev.now _))))
      · have e4 : wrap64 (p * 7) = p * 7 := w64 (by omega) (by omega)
        have e5 : wrap64 (p * 7 + 3) = p * 7 + 3 := w64 (by omega) (by omega)
        have b1 := tmod_bounds p (l.length : Int) hp (by omega)
        have b2 := tmod_bounds (p * 7 + 3) (l.length : Int) (by omega) (by omega)
        have r1 := hb _ (rd_mem l _ b1.1 b1.2)
        have r2 := hb _ (rd_mem l _ b2.1 b2.2)
        have q1 := tdiv_bounds p hp (l.length : Int) (by omega)
        have hx := mix_ok _ _ p _ r1 r2 hp (by omega) q1.1 (by omega)
        generalize hX : wrap64 ((wrap64 ((wrap64 ((wrap64 ((wrap64 (rd l (Int.tmod p (l.length : Int)))) * 131)) + (wrap64 ((wrap64 (rd l (Int.tmod (p * 7 + 3) (l.length : Int)))) * 1117)))) + (wrap64 (p * 29)))) + (wrap64 ((wrap64 (Int.tdiv p (l.length : Int))) * 53))) = X at hx
        have q2 := tdiv_bounds X hx.1 64 (by omega)
        have q3 : wrap64 (X.tdiv 64) = X.tdiv 64 := w64 (by omega) (by omega)
        have hz := bits_xor_i64_nonneg X (wrap64 (X.tdiv 64)) hx.1 (by omega) (by omega) (by omega)
        have hv := tmod_bounds _ n hz (by omega)
        refine ⟨Int.tmod (Go.bits .xor .i64 X (wrap64 (X.tdiv 64))) n, evF h1 (Ev.step (fun k => by rw [spec_l21Rd_pick.j0]) ?_), hv.1, fun _ => hv.2⟩
        simp only [e3, e4, e5, hX]
        exact evF e2 (evF h3 (evF (by omega) (evT b1.1 (evT b1.2 (evT b2.1 (evT b2.2 (evF (by omega) (Ev.now _))))))))
theorem num_ev (l : List Int) (hl : Bs l) (p : Int) (xs : List Int) (hp : 0 ≤ p) (hp2 : p ≤ 500000) (hn : 1 ≤ xs.length) (hn2 : xs.length ≤ 1000) :
    ∃ v, Ev (fun k => spec_l21Rd_num.f k l p xs) (v, p + 1) ∧ v ∈ xs := by
  obtain ⟨v, h, h0, h1⟩ := pick_ev l hl p (xs.length : Int) hp hp2 (by omega)
  refine ⟨rd xs v, ?_, rd_mem xs v h0 (h1 (by omega))⟩
  simp only [spec_l21Rd_num.f]
  exact Ev.bind h (evT h0 (evT (h1 (by omega)) (Ev.now _)))

/-! ### draws of weights and jobs -/
theorem l12Jobs_l1 (b : List Int) (hl : Bs b) (ws : List Int) (hw : 1 ≤ ws.length ∧ ws.length ≤ 4) : ∀ (d : Nat) (js : List S50) (p : Int), js.length + d ≤ 30 → 0 ≤ p → p + 2 * d ≤ 300000 →
    ∃ vs xs q, Ev (fun k => spec_l12Jobs.l1 k ws js (d : Int) b p) (vs, xs, q) ∧ vs.length ≤ 5 ∧ xs.length ≤ 31 ∧ p ≤ q ∧ q ≤ p + 2 * d + 2 := by
  intro d
  induction d with
  | zero =>
    intro js p hj hp hp2
    obtain ⟨v, h1, v0, v1⟩ := pick_ev b hl p 60 hp (by omega) (by omega)
    by_cases c0 : v = 0
    · obtain ⟨u, h2, _⟩ := num_ev b hl (p + 1) ([0, 10] : List Int) (by omega) (by omega) (by simp) (by simp)
      refine ⟨ws.set (0 : Int).toNat u, js, p + 1 + 1, Ev.step (fun k => by rw [spec_l12Jobs.l1]) ?_, by rw [List.length_set]; omega, by omega, by omega, by omega⟩
      exact evF (by omega) (Ev.bind h1 (evT c0 (Ev.bind h2 (evT (by omega) (Ev.now _)))))
    · by_cases c1 : v = 1
      · refine ⟨ws, js ++ [(⟨(ws.length : Int), 1⟩ : S50)], p + 1, Ev.step (fun k => by rw [spec_l12Jobs.l1]) ?_, by omega, by simp; omega, by omega, by omega⟩
        exact evF (by omega) (Ev.bind h1 (evF c0 (evT c1 (evT (by omega) (Ev.now _)))))
      · by_cases c2 : v = 2
        · obtain ⟨u, h2, _⟩ := num_ev b hl (p + 1) ([0, 10] : List Int) (by omega) (by omega) (by simp) (by simp)
          refine ⟨ws, js ++ [(⟨0, u⟩ : S50)], p + 1 + 1, Ev.step (fun k => by rw [spec_l12Jobs.l1]) ?_, by omega, by simp; omega, by omega, by omega⟩
          exact evF (by omega) (Ev.bind h1 (evF c0 (evF c1 (evT c2 (Ev.bind h2 (evT (by omega) (Ev.now _)))))))
        · by_cases c3 : v = 3
          · obtain ⟨u, h2, hm⟩ := num_ev b hl (p + 1) ([0, 5] : List Int) (by omega) (by omega) (by simp) (by simp)
            have hu : 0 ≤ u ∧ u ≤ 5 := by simp at hm; omega
            refine ⟨([1, 1, 1, 1, 1] : List Int).take u.toNat, js, p + 1 + 1, Ev.step (fun k => by rw [spec_l12Jobs.l1]) ?_, by rw [List.length_take]; show min _ 5 ≤ 5; omega, by omega, by omega, by omega⟩
            exact evF (by omega) (Ev.bind h1 (evF c0 (evF c1 (evF c2 (evT c3 (evS rfl (Ev.bind h2 (evT hu.1 (evT (by show u ≤ ((5 : Nat) : Int); omega) (Ev.now _))))))))))
          · refine ⟨ws, js, p + 1, Ev.step (fun k => by rw [spec_l12Jobs.l1]) ?_, by omega, by omega, by omega, by omega⟩
            exact evF (by omega) (Ev.bind h1 (evF c0 (evF c1 (evF c2 (evF c3 (Ev.now _))))))
  | succ d ih =>
    intro js p hj hp hp2
    obtain ⟨u, h1, u0, u1⟩ := pick_ev b hl p (ws.length : Int) hp (by omega) (by omega)
    obtain ⟨v, h2, v0, v1⟩ := pick_ev b hl (p + 1) 9 (by omega) (by omega) (by omega)
    obtain ⟨vs, xs, q, h, k1, k2, k3, k4⟩ := ih (js ++ [(⟨u, wrap64 (1 + v)⟩ : S50)]) (p + 1 + 1) (by simp; omega) (by omega) (by omega)
    refine ⟨vs, xs, q, Ev.step (fun k => by rw [spec_l12Jobs.l1]) ?_, k1, k2, by omega, by omega⟩
    refine evT (by omega) (Ev.bind h1 (Ev.bind h2 (evT (by omega) ?_)))
    rw [show wrap64 (((d + 1 : Nat) : Int) - 1) = (d : Int) by rw [w64 (by omega) (by omega)]; omega]
    exact h
theorem l12Jobs_l0 (b : List Int) (hl : Bs b) : ∀ (d : Nat) (ws : List Int) (p : Int), ws.length + d ≤ 4 → 1 ≤ ws.length + d → 0 ≤ p → p + d ≤ 200000 →
    ∃ vs xs q, Ev (fun k => spec_l12Jobs.l0 k ws (d : Int) b p) (vs, xs, q) ∧ vs.length ≤ 5 ∧ xs.length ≤ 31 ∧ p ≤ q ∧ q ≤ p + d + 70 := by
  intro d
  induction d with
  | zero =>
    intro ws p hw hw1 hp hp2
    obtain ⟨n, h1, hm⟩ := num_ev b hl p ([8, 14, 4, 30, 0, 1] : List Int) hp (by omega) (by simp) (by simp)
    have hn : 0 ≤ n ∧ n ≤ 30 := by simp at hm; omega
    obtain ⟨e, rfl⟩ := Int.eq_ofNat_of_zero_le hn.1
    obtain ⟨vs, xs, q, h, k1, k2, k3, k4⟩ := l12Jobs_l1 b hl ws ⟨by omega, by omega⟩ e [] (p + 1) (by simp; omega) (by omega) (by omega)
    exact ⟨vs, xs, q, Ev.step (fun k => by rw [spec_l12Jobs.l0]) (evF (by omega) (Ev.bind h1 h)), k1, k2, by omega, by omega⟩
  | succ d ih =>
    intro ws p hw hw1 hp hp2
    obtain ⟨n, h1, hm⟩ := num_ev b hl p ([1, 2, 1, 3, 9] : List Int) hp (by omega) (by simp) (by simp)
    obtain ⟨vs, xs, q, h, k1, k2, k3, k4⟩ := ih (ws ++ [n]) (p + 1) (by simp; omega) (by simp; omega) (by omega) (by omega)
    refine ⟨vs, xs, q, Ev.step (fun k => by rw [spec_l12Jobs.l0]) ?_, k1, k2, by omega, by omega⟩
    refine evT (by omega) (Ev.bind h1 (evT (by omega) ?_))
    rw [show wrap64 (((d + 1 : Nat) : Int) - 1) = (d : Int) by rw [w64 (by omega) (by omega)]; omega]
    exact h
theorem l12Jobs_ev (b : List Int) (hl : Bs b) (p : Int) (hp : 0 ≤ p) (hp2 : p ≤ 100000) :
    ∃ vs xs q, Ev (fun k => spec_l12Jobs.f k b p) (vs, xs, q) ∧ vs.length ≤ 5 ∧ xs.length ≤ 31 ∧ p ≤ q ∧ q ≤ p + 100 := by
  obtain ⟨n, h1, hm⟩ := num_ev b hl p ([2, 3, 4, 1] : List Int) hp (by omega) (by simp) (by simp)
  have hn : 1 ≤ n ∧ n ≤ 4 := by simp at hm; omega
  obtain ⟨d, rfl⟩ := Int.eq_ofNat_of_zero_le (show 0 ≤ n by omega)
  obtain ⟨vs, xs, q, h, k1, k2, k3, k4⟩ := l12Jobs_l0 b hl d [] (p + 1) (by simp; omega) (by simp; omega) (by omega) (by omega)
  refine ⟨vs, xs, q, ?_, k1, k2, by omega, by omega⟩
  simp only [spec_l12Jobs.f]
  exact Ev.bind h1 h

theorem apartV_eq {l : List Int} {a b : Int} (h : wok l = true) (ha : 0 ≤ a ∧ a ≤ (l.length : Int) - 1) (hb : 0 ≤ b ∧ b ≤ (l.length : Int) - 1) :
    apartV l a b = 9 * (rd l a * rd l b) + 8 * rd l a ∧ 1 ≤ rd l a ∧ rd l a ≤ 9 ∧ 1 ≤ rd l b ∧ rd l b ≤ 9 ∧ 0 ≤ rd l a * rd l b := by
  obtain ⟨h1, h2, h3⟩ := wok_elim h
  have x := h3 _ (rd_mem l a ha.1 (by omega))
  have y := h3 _ (rd_mem l b hb.1 (by omega))
  unfold apartV
  generalize rd l a = u at *
  generalize rd l b = v at *
  have hp : 0 ≤ u * v := Int.mul_nonneg (by omega) (by omega)
  refine ⟨?_, x.1, x.2, y.1, y.2, hp⟩
  have hu : u = 1 ∨ u = 2 ∨ u = 3 ∨ u = 4 ∨ u = 5 ∨ u = 6 ∨ u = 7 ∨ u = 8 ∨ u = 9 := by omega
  unfold wrap64
  rcases hu with h | h | h | h | h | h | h | h | h <;> subst h <;> omega
theorem drawApart_ev (l : List Int) (hb : ∀ x ∈ l, (Lit.int .u8 x).wf = true) : ∃ ws a b, Ev (fun k => spec_DrawApartBound.f k l) (ws, a, b) ∧ ws.length ≤ 5 := by
  obtain ⟨b, ho, hl⟩ := open_ev l hb
  obtain ⟨vs, xs, q, h1, k1, k2, k3, k4⟩ := l12Jobs_ev b hl 0 (by omega) (by omega)
  obtain ⟨u, h2, u0, u1⟩ := pick_ev b hl q (wrap64 ((vs.length : Int) + 2)) (by omega) (by omega) (by rw [w64 (by omega) (by omega)]; omega)
  obtain ⟨v, h3, v0, v1⟩ := pick_ev b hl (q + 1) (wrap64 ((vs.length : Int) + 1)) (by omega) (by omega) (by rw [w64 (by omega) (by omega)]; omega)
  refine ⟨vs, wrap64 (u - 1), v, ?_, k1⟩
  simp only [spec_DrawApartBound.f]
  exact evS ho (Ev.bind h1 (Ev.bind h2 (Ev.bind h3 (Ev.now _))))
theorem q_FnApartBound : laws_FnApartBound.Pure := by
  intro l hl1 hl2 hb
  refine Ev.rounds ?_
  simp only [laws_FnApartBound.f]
  by_cases h0 : (l.length : Int) > 1048576
  · exact evT h0 (Ev.now _)
  obtain ⟨ws, x, y, hd, hwl⟩ := drawApart_ev l hb
  have hs := specApart_ev ws (by omega) x y
  refine evF h0 (Ev.bind hd (evS (implApart_eq ws x y) (Ev.bind hs (evT rfl (Ev.step (fun k => by rw [laws_FnApartBound.j0]) ?_)))))
  by_cases c : wok ws = true ∧ (0 ≤ x ∧ x ≤ (ws.length : Int) - 1) ∧ (0 ≤ y ∧ y ≤ (ws.length : Int) - 1)
  · obtain ⟨e1, a1, a2, b1, b2, hp⟩ := apartV_eq c.1 c.2.1 c.2.2
    obtain ⟨e2, _, _, _, _, _⟩ := apartV_eq c.1 c.2.2 c.2.1
    have hc : rd ws y * rd ws x = rd ws x * rd ws y := Int.mul_comm _ _
    rw [apart_yes c, e1]
    refine evF (by simp only [decide_eq_true_eq]; omega) (evS (implApart_eq ws y x) ?_)
    rw [apart_yes ⟨c.1, c.2.2, c.2.1⟩, e2, hc]
    dsimp only
    refine evT c.2.1.1 (evT (by omega) (evT c.2.2.1 (evT (by omega) ?_)))
    generalize rd ws x * rd ws y = p at hp ⊢
    refine evT ?_ (evE (Ev.now _) ?_)
    · rw [beq_iff_eq]
      exact decide_eq_decide.2 (by omega)
    · rw [beq_iff_eq, Bool.eq_iff_iff, beq_iff_eq, beq_iff_eq]
      omega
  · rw [apart_no c]
    rw [apart_no c] at hs
    refine evT (by decide) (Ev.bind hs (evT rfl (Ev.now _)))

end Go.Proofs.Ytecdngoknkmncaa.Q
