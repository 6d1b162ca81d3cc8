/- Plain lemmas on what the printed functions compute (seat Ytnagdcigoaeicaa, module QFairAll). Conditions: each lemma's own. -/
import Derived.Test.YtnagdcigoaeicaaQh
import Derived.Test.YtnagdcigoaeicaaPA0
import Derived.Test.YtnagdcigoaeicaaPA12
import Derived.Test.YtnagdcigoaeicaaPA2
import Derived.Test.YtnagdcigoaeicaaPA8
set_option linter.unusedVariables false
set_option linter.unusedSimpArgs false
namespace Go.Proofs.Ytnagdcigoaeicaa.Q
open Go Go.RowKit Go.Proofs.Ytnagdcigoaeicaa.PA Go.Proofs.YtnagdcigoaeicaaW.PrintWords Go.Proofs.YtnagdcigoaeicaaW.PrintLast

theorem open_ev (l : List Int) (hb : ∀ x ∈ l, (Lit.int .u8 x).wf = true) : ∃ b, spec_l21Open.f l = some (b, 0) ∧ Bs b := by
  unfold spec_l21Open.f
  by_cases h : (l.length : Int) > 2000
  · refine ⟨l.take 2000, by rw [if_pos h, if_pos (by omega)], by simp; omega, fun x hx => lit_u8 (hb x (List.mem_of_mem_take hx))⟩
  · exact ⟨l, by rw [if_neg h], by omega, fun x hx => lit_u8 (hb x hx)⟩
theorem pick_ev (l : List Int) (hl : Bs l) (p n : Int) (hp : 0 ≤ p) (hp2 : p ≤ 500000) (hn : n ≤ 1000000000) :
    ∃ v, Ev (fun k => spec_l21Rd_pick.f k l p n) (v, p + 1) ∧ 0 ≤ v ∧ (1 ≤ n → v < n) := by
  obtain ⟨hl1, hb⟩ := hl
  have e1 : wrap64 (p + 1) = p + 1 := w64 (by omega) (by omega)
  simp only [spec_l21Rd_pick.f, e1]
  by_cases h1 : n < 1
  · refine ⟨0, evT h1 (Ev.step (fun k => by rw [spec_l21Rd_pick.j0]) (evT rfl (Ev.now _))), by omega, by omega⟩
  · by_cases h2 : l.length = 0
    · have e2 : ((l.length : Int) == 0) = true := by simpa using h2
      refine ⟨0, evF h1 (Ev.step (fun k => by rw [spec_l21Rd_pick.j0]) (evT e2 (Ev.now _))), by omega, by omega⟩
    · have e2 : ¬ (((l.length : Int) == 0) = true) := by simpa using h2
      have e3 : wrap64 (p + 1 - 1) = p := by rw [w64 (by omega) (by omega)]; omega
      by_cases h3 : p < (l.length : Int)
      · have hr := hb _ (rd_mem l p hp h3)
        have hv := tmod_bounds (wrap64 (rd l p)) n (by rw [w64 (by omega) (by omega)]; omega) (by omega)
        refine ⟨Int.tmod (wrap64 (rd l p)) n, evF h1 (Ev.step (fun k => by rw [spec_l21Rd_pick.j0]) ?_), hv.1, fun _ => hv.2⟩
        rw [e3]
        exact evF e2 (evT h3 (evT hp (evF (by omega) (Ev.now _))))
      · have e4 : wrap64 (p * 7) = p * 7 := w64 (by omega) (by omega)
        have e5 : wrap64 (p * 7 + 3) = p * 7 + 3 := w64 (by omega) (by omega)
        have b1 := tmod_bounds p (l.length : Int) hp (by omega)
        have b2 := tmod_bounds (p * 7 + 3) (l.length : Int) (by omega) (by omega)
        have r1 := hb _ (rd_mem l _ b1.1 b1.2)
        have r2 := hb _ (rd_mem l _ b2.1 b2.2)
        have q1 := tdiv_bounds p hp (l.length : Int) (by omega)
        have hx := mix_ok _ _ p _ r1 r2 hp (by omega) q1.1 (by omega)
        generalize hX : wrap64 ((wrap64 ((wrap64 ((wrap64 ((wrap64 (rd l (Int.tmod p (l.length : Int)))) * 131)) + (wrap64 ((wrap64 (rd l (Int.tmod (p * 7 + 3) (l.length : Int)))) * 1117)))) + (wrap64 (p * 29)))) + (wrap64 ((wrap64 (Int.tdiv p (l.length : Int))) * 53))) = X at hx
        have q2 := tdiv_bounds X hx.1 64 (by omega)
        have q3 : wrap64 (X.tdiv 64) = X.tdiv 64 := w64 (by omega) (by omega)
        have hz := bits_xor_i64_nonneg X (wrap64 (X.tdiv 64)) hx.1 (by omega) (by omega) (by omega)
        have hv := tmod_bounds _ n hz (by omega)
        refine ⟨Int.tmod (Go.bits .xor .i64 X (wrap64 (X.tdiv 64))) n, evF h1 (Ev.step (fun k => by rw [spec_l21Rd_pick.j0]) ?_), hv.1, fun _ => hv.2⟩
        simp only [e3, e4, e5, hX]
        exact evF e2 (evF h3 (evF (by omega) (evT b1.1 (evT b1.2 (evT b2.1 (evT b2.2 (evF (by omega) (Ev.now _))))))))
theorem num_ev (l : List Int) (hl : Bs l) (p : Int) (xs : List Int) (hp : 0 ≤ p) (hp2 : p ≤ 500000) (hn : 1 ≤ xs.length) (hn2 : xs.length ≤ 1000) :
    ∃ v, Ev (fun k => spec_l21Rd_num.f k l p xs) (v, p + 1) ∧ v ∈ xs := by
  obtain ⟨v, h, h0, h1⟩ := pick_ev l hl p (xs.length : Int) hp hp2 (by omega)
  refine ⟨rd xs v, ?_, rd_mem xs v h0 (h1 (by omega))⟩
  simp only [spec_l21Rd_num.f]
  exact Ev.bind h (evT h0 (evT (h1 (by omega)) (Ev.now _)))

/-! ### lists that are compared, copied, marked -/
theorem wnInts_l0 (a b : List Int) (hl : a.length = b.length) (hb : a.length ≤ 1000000000000) : ∀ d i : Nat, i + d = a.length →
    Ev (fun k => laws_wnInts.l0 k b a (a.length : Int) (i : Int)) (decide (a.drop i = b.drop i)) := by
  intro d
  induction d with
  | zero =>
    intro i hi
    refine Ev.step (fun k => by rw [laws_wnInts.l0]) ?_
    refine evF (by omega) (evE (Ev.now _) ?_)
    rw [List.drop_of_length_le (by omega), List.drop_of_length_le (by omega)]
    simp
  | succ d ih =>
    intro i hi
    have ha : a.drop i = a[i]'(by omega) :: a.drop (i + 1) := List.drop_eq_getElem_cons (by omega)
    have hb' : b.drop i = b[i]'(by omega) :: b.drop (i + 1) := List.drop_eq_getElem_cons (by omega)
    have e : wrap64 ((i : Int) + 1) = ((i + 1 : Nat) : Int) := by rw [w64 (by omega) (by omega)]; omega
    refine Ev.step (fun k => by rw [laws_wnInts.l0]) ?_
    refine evT (by omega) (evT (by omega) (evT (by omega) (evT (by omega) ?_)))
    rw [rd_at b i (by omega), rd_at a i (by omega), e]
    by_cases h : b[i]'(by omega) = a[i]'(by omega)
    · refine evT h (evE (ih (i + 1) (by omega)) ?_)
      rw [ha, hb']
      exact decide_eq_decide.2 ⟨fun e => by rw [h, e], fun e => (List.cons.inj e).2⟩
    · refine evF h (evE (Ev.now _) ?_)
      rw [ha, hb']
      exact (decide_eq_false (fun e => h (List.cons.inj e).1.symm)).symm
theorem wnInts_ev (a b : List Int) (hb : a.length ≤ 1000000000000) : Ev (fun k => laws_wnInts.f k a b) (decide (a = b)) := by
  simp only [laws_wnInts.f]
  by_cases h : a.length = b.length
  · exact evT (by omega) (evE (wnInts_l0 a b h hb a.length 0 (by omega)) (by simp))
  · exact evF (by omega) (evE (Ev.now _) (by simp; intro e; exact h (by rw [e])))

/-! ### draws of weights and jobs -/
theorem l12Jobs_l1 (b : List Int) (hl : Bs b) (ws : List Int) (hw : 1 ≤ ws.length ∧ ws.length ≤ 4) : ∀ (d : Nat) (js : List S30) (p : Int), js.length + d ≤ 30 → 0 ≤ p → p + 2 * d ≤ 300000 →
    ∃ vs xs q, Ev (fun k => spec_l12Jobs.l1 k ws js (d : Int) b p) (vs, xs, q) ∧ vs.length ≤ 5 ∧ xs.length ≤ 31 ∧ p ≤ q ∧ q ≤ p + 2 * d + 2 := by
  intro d
  induction d with
  | zero =>
    intro js p hj hp hp2
    obtain ⟨v, h1, v0, v1⟩ := pick_ev b hl p 60 hp (by omega) (by omega)
    by_cases c0 : v = 0
    · obtain ⟨u, h2, _⟩ := num_ev b hl (p + 1) ([0, 10] : List Int) (by omega) (by omega) (by simp) (by simp)
      refine ⟨ws.set (0 : Int).toNat u, js, p + 1 + 1, Ev.step (fun k => by rw [spec_l12Jobs.l1]) ?_, by rw [List.length_set]; omega, by omega, by omega, by omega⟩
      exact evF (by omega) (Ev.bind h1 (evT c0 (Ev.bind h2 (evT (by omega) (Ev.now _)))))
    · by_cases c1 : v = 1
      · refine ⟨ws, js ++ [(⟨(ws.length : Int), 1⟩ : S30)], p + 1, Ev.step (fun k => by rw [spec_l12Jobs.l1]) ?_, by omega, by simp; omega, by omega, by omega⟩
        exact evF (by omega) (Ev.bind h1 (evF c0 (evT c1 (evT (by omega) (Ev.now _)))))
      · by_cases c2 : v = 2
        · obtain ⟨u, h2, _⟩ := num_ev b hl (p + 1) ([0, 10] : List Int) (by omega) (by omega) (by simp) (by simp)
          refine ⟨ws, js ++ [(⟨0, u⟩ : S30)], p + 1 + 1, Ev.step (fun k => by rw [spec_l12Jobs.l1]) ?_, by omega, by simp; omega, by omega, by omega⟩
          exact evF (by omega) (Ev.bind h1 (evF c0 (evF c1 (evT c2 (Ev.bind h2 (evT (by omega) (Ev.now _)))))))
        · by_cases c3 : v = 3
          · obtain ⟨u, h2, hm⟩ := num_ev b hl (p + 1) ([0, 5] : List Int) (by omega) (by omega) (by simp) (by simp)
            have hu : 0 ≤ u ∧ u ≤ 5 := by simp at hm; omega
            refine ⟨([1, 1, 1, 1, 1] : List Int).take u.toNat, js, p + 1 + 1, Ev.step (fun k => by rw [spec_l12Jobs.l1]) ?_, by rw [List.length_take]; show min _ 5 ≤ 5; omega, by omega, by omega, by omega⟩
            exact evF (by omega) (Ev.bind h1 (evF c0 (evF c1 (evF c2 (evT c3 (evS rfl (Ev.bind h2 (evT hu.1 (evT (by show u ≤ ((5 : Nat) : Int); omega) (Ev.now _))))))))))
          · refine ⟨ws, js, p + 1, Ev.step (fun k => by rw [spec_l12Jobs.l1]) ?_, by omega, by omega, by omega, by omega⟩
            exact evF (by omega) (Ev.bind h1 (evF c0 (evF c1 (evF c2 (evF c3 (Ev.now _))))))
  | succ d ih =>
    intro js p hj hp hp2
    obtain ⟨u, h1, u0, u1⟩ := pick_ev b hl p (ws.length : Int) hp (by omega) (by omega)
    obtain ⟨v, h2, v0, v1⟩ := pick_ev b hl (p + 1) 9 (by omega) (by omega) (by omega)
    obtain ⟨vs, xs, q, h, k1, k2, k3, k4⟩ := ih (js ++ [(⟨u, wrap64 (1 + v)⟩ : S30)]) (p + 1 + 1) (by simp; omega) (by omega) (by omega)
    refine ⟨vs, xs, q, Ev.step (fun k => by rw [spec_l12Jobs.l1]) ?_, k1, k2, by omega, by omega⟩
    refine evT (by omega) (Ev.bind h1 (Ev.bind h2 (evT (by omega) ?_)))
    rw [show wrap64 (((d + 1 : Nat) : Int) - 1) = (d : Int) by rw [w64 (by omega) (by omega)]; omega]
    exact h
theorem l12Jobs_l0 (b : List Int) (hl : Bs b) : ∀ (d : Nat) (ws : List Int) (p : Int), ws.length + d ≤ 4 → 1 ≤ ws.length + d → 0 ≤ p → p + d ≤ 200000 →
    ∃ vs xs q, Ev (fun k => spec_l12Jobs.l0 k ws (d : Int) b p) (vs, xs, q) ∧ vs.length ≤ 5 ∧ xs.length ≤ 31 ∧ p ≤ q ∧ q ≤ p + d + 70 := by
  intro d
  induction d with
  | zero =>
    intro ws p hw hw1 hp hp2
    obtain ⟨n, h1, hm⟩ := num_ev b hl p ([8, 14, 4, 30, 0, 1] : List Int) hp (by omega) (by simp) (by simp)
    have hn : 0 ≤ n ∧ n ≤ 30 := by simp at hm; omega
    obtain ⟨e, rfl⟩ := Int.eq_ofNat_of_zero_le hn.1
    obtain ⟨vs, xs, q, h, k1, k2, k3, k4⟩ := l12Jobs_l1 b hl ws ⟨by omega, by omega⟩ e [] (p + 1) (by simp; omega) (by omega) (by omega)
    exact ⟨vs, xs, q, Ev.step (fun k => by rw [spec_l12Jobs.l0]) (evF (by omega) (Ev.bind h1 h)), k1, k2, by omega, by omega⟩
  | succ d ih =>
    intro ws p hw hw1 hp hp2
    obtain ⟨n, h1, hm⟩ := num_ev b hl p ([1, 2, 1, 3, 9] : List Int) hp (by omega) (by simp) (by simp)
    obtain ⟨vs, xs, q, h, k1, k2, k3, k4⟩ := ih (ws ++ [n]) (p + 1) (by simp; omega) (by simp; omega) (by omega) (by omega)
    refine ⟨vs, xs, q, Ev.step (fun k => by rw [spec_l12Jobs.l0]) ?_, k1, k2, by omega, by omega⟩
    refine evT (by omega) (Ev.bind h1 (evT (by omega) ?_))
    rw [show wrap64 (((d + 1 : Nat) : Int) - 1) = (d : Int) by rw [w64 (by omega) (by omega)]; omega]
    exact h
theorem l12Jobs_ev (b : List Int) (hl : Bs b) (p : Int) (hp : 0 ≤ p) (hp2 : p ≤ 100000) :
    ∃ vs xs q, Ev (fun k => spec_l12Jobs.f k b p) (vs, xs, q) ∧ vs.length ≤ 5 ∧ xs.length ≤ 31 ∧ p ≤ q ∧ q ≤ p + 100 := by
  obtain ⟨n, h1, hm⟩ := num_ev b hl p ([2, 3, 4, 1] : List Int) hp (by omega) (by simp) (by simp)
  have hn : 1 ≤ n ∧ n ≤ 4 := by simp at hm; omega
  obtain ⟨d, rfl⟩ := Int.eq_ofNat_of_zero_le (show 0 ≤ n by omega)
  obtain ⟨vs, xs, q, h, k1, k2, k3, k4⟩ := l12Jobs_l0 b hl d [] (p + 1) (by simp; omega) (by simp; omega) (by omega) (by omega)
  refine ⟨vs, xs, q, ?_, k1, k2, by omega, by omega⟩
  simp only [spec_l12Jobs.f]
  exact Ev.bind h1 h

theorem drawFair_ev (l : List Int) (hb : ∀ x ∈ l, (Lit.int .u8 x).wf = true) : ∃ ws js, Ev (fun k => spec_DrawFairOrder.f k l) (ws, js) ∧ ws.length ≤ 5 ∧ js.length ≤ 31 := by
  obtain ⟨b, ho, hl⟩ := open_ev l hb
  obtain ⟨vs, xs, q, h1, k1, k2, k3, k4⟩ := l12Jobs_ev b hl 0 (by omega) (by omega)
  refine ⟨vs, xs, ?_, k1, k2⟩
  simp only [spec_DrawFairOrder.f]
  exact evS ho (Ev.bind h1 (Ev.now _))
theorem fair_in (js : List S30) (hj : js.length ≤ 60) (r : List Int) (hP : Pr js r) {i : Nat} (hi : i < r.length) {R : Bool}
    (hn : Ev (fun k => laws_FnFairAll.l0 k js r r (r.length : Int) (wrap64 ((i : Int) + 1))) R) : ∀ d j : Nat, i + 1 + j + d = r.length →
    Ev (fun k => laws_FnFairAll.l1 k js r (rd r (i : Int)) r (r.length : Int) (i : Int) (r.drop (i + 1)) ((r.drop (i + 1)).length : Int) (j : Int)) R := by
  have hrl : r.length ≤ 60 := by rw [hP.1]; exact hj
  have hdl : (r.drop (i + 1)).length = r.length - (i + 1) := List.length_drop
  have hir := hP.2.1 _ (List.getElem_mem hi)
  have hri : rd r (i : Int) = r[i] := rd_at r i hi
  intro d
  induction d with
  | zero =>
    intro j hj2
    have n1 : ¬ (j : Int) < ((r.drop (i + 1)).length : Int) := by rw [hdl]; omega
    refine Ev.step (fun k => by rw [laws_FnFairAll.l1]) ?_
    exact evF n1 hn
  | succ d ih =>
    intro j hj2
    have hr := ih (j + 1) (by omega)
    have hq : i + 1 + j < r.length := by omega
    have n1 : (j : Int) < ((r.drop (i + 1)).length : Int) := by rw [hdl]; omega
    have n2 : 0 ≤ (j : Int) := by omega
    have e1 : wrap64 ((j : Int) + 1) = ((j + 1 : Nat) : Int) := by rw [w64 (by omega) (by omega)]; omega
    have hrq : rd (r.drop (i + 1)) (j : Int) = r[i + 1 + j] := by rw [rd_at _ j (by rw [hdl]; omega)]; exact List.getElem_drop ..
    have hqr := hP.2.1 _ (List.getElem_mem hq)
    have hord := hP.2.2 i (i + 1 + j) (by omega) hq
    unfold cls at hord
    refine Ev.step (fun k => by rw [laws_FnFairAll.l1]) ?_
    refine evT n1 (evT n2 (evT n1 ?_))
    rw [hrq, hri, e1]
    rw [hri] at hr
    refine evT hir.1 (evT hir.2 (evT hqr.1 (evT hqr.2 ?_)))
    by_cases c : (rd_T30 js r[i]).f0 = (rd_T30 js r[i + 1 + j]).f0
    · exact evT c (evF (Int.not_le.2 (hord c)) hr)
    · exact evF c hr
theorem fair_out (js : List S30) (hj : js.length ≤ 60) (r : List Int) (hP : Pr js r) : ∀ d i : Nat, i + d = r.length → Ev (fun k => laws_FnFairAll.l0 k js r r (r.length : Int) (i : Int)) true := by
  have hrl : r.length ≤ 60 := by rw [hP.1]; exact hj
  intro d
  induction d with
  | zero =>
    intro i hi
    refine Ev.step (fun k => by rw [laws_FnFairAll.l0]) ?_
    exact evF (by omega) (evE (Ev.now _) (by rw [hP.1]; simp))
  | succ d ih =>
    intro i hi
    have e1 : wrap64 ((i : Int) + 1) = ((i + 1 : Nat) : Int) := by rw [w64 (by omega) (by omega)]; omega
    have hn := fair_in js hj r hP (i := i) (by omega) (R := true) (by rw [e1]; exact ih (i + 1) (by omega)) (r.length - (i + 1)) 0 (by omega)
    refine Ev.step (fun k => by rw [laws_FnFairAll.l0]) ?_
    rw [e1]
    refine evT (by omega) (evT (by omega) (evT (by omega) (evT (by omega) (evT (by omega) (evS (a := r.drop (i + 1)) (by rw [Int.toNat_natCast]) ?_)))))
    exact hn
theorem q_FnFairAll : laws_FnFairAll.Pure := by
  intro l hl1 hl2 hb
  refine Ev.rounds ?_
  simp only [laws_FnFairAll.f]
  by_cases h0 : (l.length : Int) > 1048576
  · exact evT h0 (Ev.now _)
  obtain ⟨ws, js, hd, hw, hjl⟩ := drawFair_ev l hb
  obtain ⟨r, hs, hi, hc⟩ := fair_ev ws (by omega) js (by omega)
  have hrl : r.length ≤ 60 := by
    rcases hc with ⟨_, rfl⟩ | ⟨_, h6, hP⟩
    · simp
    · rw [hP.1]; exact h6
  have hq : Ev (fun k => laws_wnInts.f k r r) true := evE (wnInts_ev r r (by omega)) (by simp)
  have hjv := specJobs_ev ws (by omega) js (by omega)
  refine evF h0 (Ev.bind hd (Ev.bind hi (Ev.bind hs (Ev.bind hq (evT rfl (evS (implJobs_eq ws js) (Ev.bind hjv (evF (by simp) (Ev.step (fun k => by rw [laws_FnFairAll.j0]) ?_)))))))))
  by_cases hz : (r.length : Int) = 0
  · exact evT (by simpa using hz) (Ev.bind hs (Ev.bind hq (evT rfl (evS (implJobs_eq ws js) (Ev.bind hjv (evE (Ev.now _) (by simp)))))))
  · refine evF (by simpa using hz) ?_
    rcases hc with ⟨_, rfl⟩ | ⟨_, h6, hP⟩
    · simp at hz
    · exact fair_out js h6 r hP r.length 0 (by omega)

end Go.Proofs.Ytnagdcigoaeicaa.Q
