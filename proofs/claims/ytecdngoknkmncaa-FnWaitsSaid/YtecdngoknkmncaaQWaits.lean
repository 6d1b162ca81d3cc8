/- Plain lemmas on what the printed functions compute (seat Ytecdngoknkmncaa, module QWaits). Conditions: each lemma's own. -/
import Derived.Test.YtecdngoknkmncaaQf
import Derived.Test.YtecdngoknkmncaaQd
import Derived.Test.YtecdngoknkmncaaPA0
import Derived.Test.YtecdngoknkmncaaPA16
import Derived.Test.YtecdngoknkmncaaPA6
set_option linter.unusedVariables false
set_option linter.unusedSimpArgs false
namespace Go.Proofs.Ytecdngoknkmncaa.Q
open Go Go.RowKit Go.Proofs.Ytecdngoknkmncaa.PA Go.Proofs.YtecdngoknkmncaaW.PrintWords Go.Proofs.YtecdngoknkmncaaW.PrintLast

theorem open_ev (l : List Int) (hb : ∀ x ∈ l, (Lit.int .u8 x).wf = true) : ∃ b, spec_l21Open.f l = some (b, 0) ∧ Bs b := by
  unfold spec_l21Open.f
  by_cases h : (l.length : Int) > 2000
  · refine ⟨l.take 2000, by rw [if_pos h, if_pos (by omega)], by simp; omega, fun x hx => lit_u8 (hb x (List.mem_of_mem_take hx))⟩
  · exact ⟨l, by rw [if_neg h], by omega, fun x hx => lit_u8 (hb x hx)⟩
theorem pick_ev (l : List Int) (hl : Bs l) (p n : Int) (hp : 0 ≤ p) (hp2 : p ≤ 500000) (hn : n ≤ 1000000000) :
    ∃ v, Ev (fun k => spec_l21Rd_pick.f k l p n) (v, p + 1) ∧ 0 ≤ v ∧ (1 ≤ n → v < n) := by
  obtain ⟨hl1, hb⟩ := hl
  have e1 : wrap64 (p + 1) = p + 1 := w64 (by omega) (by omega)
  simp only [spec_l21Rd_pick.f, e1]
  by_cases h1 : n < 1
  · refine ⟨0, evT h1 (Ev.step (fun k => by rw [spec_l21Rd_pick.j0]) (evT rfl (Ev.now _))), by omega, by omega⟩
  · by_cases h2 : l.length = 0
    · have e2 : ((l.length : Int) == 0) = true := by simpa using h2
      refine ⟨0, evF h1 (Ev.step (fun k => by rw [spec_l21Rd_pick.j0]) (evT e2 (Ev.now _))), by omega, by omega⟩
    · have e2 : ¬ (((l.length : Int) == 0) = true) := by simpa using h2
      have e3 : wrap64 (p + 1 - 1) = p := by rw [w64 (by omega) (by omega)]; omega
      by_cases h3 : p < (l.length : Int)
      · have hr := hb _ (rd_mem l p hp h3)
        have hv := tmod_bounds (wrap64 (rd l p)) n (by rw [w64 (by omega) (by omega)]; omega) (by omega)
        refine ⟨Int.tmod (wrap64 (rd l p)) n, evF h1 (Ev.step (fun k => by rw [spec_l21Rd_pick.j0]) ?_), hv.1, fun _ => hv.2⟩
        rw [e3]
        exact evF e2 (evT h3 (evT hp (evF (by omega) (Ev.now _))))
      · have e4 : wrap64 (p * 7) = p * 7 := w64 (by omega) (by omega)
        have e5 : wrap64 (p * 7 + 3) = p * 7 + 3 := w64 (by omega) (by omega)
        have b1 := tmod_bounds p (l.length : Int) hp (by omega)
        have b2 := tmod_bounds (p * 7 + 3) (l.length : Int) (by omega) (by omega)
        have r1 := hb _ (rd_mem l _ b1.1 b1.2)
        have r2 := hb _ (rd_mem l _ b2.1 b2.2)
        have q1 := tdiv_bounds p hp (l.length : Int) (by omega)
        have hx := mix_ok _ _ p _ r1 r2 hp (by omega) q1.1 (by omega)
        generalize hX : wrap64 ((wrap64 ((wrap64 ((wrap64 ((wrap64 (rd l (Int.tmod p (l.length : Int)))) * 131)) + (wrap64 ((wrap64 (rd l (Int.tmod (p * 7 + 3) (l.length : Int)))) * 1117)))) + (wrap64 (p * 29)))) + (wrap64 ((wrap64 (Int.tdiv p (l.length : Int))) * 53))) = X at hx
        have q2 := tdiv_bounds X hx.1 64 (by omega)
        have q3 : wrap64 (X.tdiv 64) = X.tdiv 64 := w64 (by omega) (by omega)
        have hz := bits_xor_i64_nonneg X (wrap64 (X.tdiv 64)) hx.1 (by omega) (by omega) (by omega)
        have hv := tmod_bounds _ n hz (by omega)
        refine ⟨Int.tmod (Go.bits .xor .i64 X (wrap64 (X.tdiv 64))) n, evF h1 (Ev.step (fun k => by rw [spec_l21Rd_pick.j0]) ?_), hv.1, fun _ => hv.2⟩
        simp only [e3, e4, e5, hX]
        exact evF e2 (evF h3 (evF (by omega) (evT b1.1 (evT b1.2 (evT b2.1 (evT b2.2 (evF (by omega) (Ev.now _))))))))
theorem num_ev (l : List Int) (hl : Bs l) (p : Int) (xs : List Int) (hp : 0 ≤ p) (hp2 : p ≤ 500000) (hn : 1 ≤ xs.length) (hn2 : xs.length ≤ 1000) :
    ∃ v, Ev (fun k => spec_l21Rd_num.f k l p xs) (v, p + 1) ∧ v ∈ xs := by
  obtain ⟨v, h, h0, h1⟩ := pick_ev l hl p (xs.length : Int) hp hp2 (by omega)
  refine ⟨rd xs v, ?_, rd_mem xs v h0 (h1 (by omega))⟩
  simp only [spec_l21Rd_num.f]
  exact Ev.bind h (evT h0 (evT (h1 (by omega)) (Ev.now _)))

/-! ### draws of weights and jobs -/
theorem l12Jobs_l1 (b : List Int) (hl : Bs b) (ws : List Int) (hw : 1 ≤ ws.length ∧ ws.length ≤ 4) : ∀ (d : Nat) (js : List S50) (p : Int), js.length + d ≤ 30 → 0 ≤ p → p + 2 * d ≤ 300000 →
    ∃ vs xs q, Ev (fun k => spec_l12Jobs.l1 k ws js (d : Int) b p) (vs, xs, q) ∧ vs.length ≤ 5 ∧ xs.length ≤ 31 ∧ p ≤ q ∧ q ≤ p + 2 * d + 2 := by
  intro d
  induction d with
  | zero =>
    intro js p hj hp hp2
    obtain ⟨v, h1, v0, v1⟩ := pick_ev b hl p 60 hp (by omega) (by omega)
    by_cases c0 : v = 0
    · obtain ⟨u, h2, _⟩ := num_ev b hl (p + 1) ([0, 10] : List Int) (by omega) (by omega) (by simp) (by simp)
      refine ⟨ws.set (0 : Int).toNat u, js, p + 1 + 1, Ev.step (fun k => by rw [spec_l12Jobs.l1]) ?_, by rw [List.length_set]; omega, by omega, by omega, by omega⟩
      exact evF (by omega) (Ev.bind h1 (evT c0 (Ev.bind h2 (evT (by omega) (Ev.now _)))))
    · by_cases c1 : v = 1
      · refine ⟨ws, js ++ [(⟨(ws.length : Int), 1⟩ : S50)], p + 1, Ev.step (fun k => by rw [spec_l12Jobs.l1]) ?_, by omega, by simp; omega, by omega, by omega⟩
        exact evF (by omega) (Ev.bind h1 (evF c0 (evT c1 (evT (by omega) (Ev.now _)))))
      · by_cases c2 : v = 2
        · obtain ⟨u, h2, _⟩ := num_ev b hl (p + 1) ([0, 10] : List Int) (by omega) (by omega) (by simp) (by simp)
          refine ⟨ws, js ++ [(⟨0, u⟩ : S50)], p + 1 + 1, Ev.step (fun k => by rw [spec_l12Jobs.l1]) ?_, by omega, by simp; omega, by omega, by omega⟩
          exact evF (by omega) (Ev.bind h1 (evF c0 (evF c1 (evT c2 (Ev.bind h2 (evT (by omega) (Ev.now _)))))))
        · by_cases c3 : v = 3
          · obtain ⟨u, h2, hm⟩ := num_ev b hl (p + 1) ([0, 5] : List Int) (by omega) (by omega) (by simp) (by simp)
            have hu : 0 ≤ u ∧ u ≤ 5 := by simp at hm; omega
            refine ⟨([1, 1, 1, 1, 1] : List Int).take u.toNat, js, p + 1 + 1, Ev.step (fun k => by rw [spec_l12Jobs.l1]) ?_, by rw [List.length_take]; show min _ 5 ≤ 5; omega, by omega, by omega, by omega⟩
            exact evF (by omega) (Ev.bind h1 (evF c0 (evF c1 (evF c2 (evT c3 (evS rfl (Ev.bind h2 (evT hu.1 (evT (by show u ≤ ((5 : Nat) : Int); omega) (Ev.now _))))))))))
          · refine ⟨ws, js, p + 1, Ev.step (fun k => by rw [spec_l12Jobs.l1]) ?_, by omega, by omega, by omega, by omega⟩
            exact evF (by omega) (Ev.bind h1 (evF c0 (evF c1 (evF c2 (evF c3 (Ev.now _))))))
  | succ d ih =>
    intro js p hj hp hp2
    obtain ⟨u, h1, u0, u1⟩ := pick_ev b hl p (ws.length : Int) hp (by omega) (by omega)
    obtain ⟨v, h2, v0, v1⟩ := pick_ev b hl (p + 1) 9 (by omega) (by omega) (by omega)
    obtain ⟨vs, xs, q, h, k1, k2, k3, k4⟩ := ih (js ++ [(⟨u, wrap64 (1 + v)⟩ : S50)]) (p + 1 + 1) (by simp; omega) (by omega) (by omega)
    refine ⟨vs, xs, q, Ev.step (fun k => by rw [spec_l12Jobs.l1]) ?_, k1, k2, by omega, by omega⟩
    refine evT (by omega) (Ev.bind h1 (Ev.bind h2 (evT (by omega) ?_)))
    rw [show wrap64 (((d + 1 : Nat) : Int) - 1) = (d : Int) by rw [w64 (by omega) (by omega)]; omega]
    exact h
theorem l12Jobs_l0 (b : List Int) (hl : Bs b) : ∀ (d : Nat) (ws : List Int) (p : Int), ws.length + d ≤ 4 → 1 ≤ ws.length + d → 0 ≤ p → p + d ≤ 200000 →
    ∃ vs xs q, Ev (fun k => spec_l12Jobs.l0 k ws (d : Int) b p) (vs, xs, q) ∧ vs.length ≤ 5 ∧ xs.length ≤ 31 ∧ p ≤ q ∧ q ≤ p + d + 70 := by
  intro d
  induction d with
  | zero =>
    intro ws p hw hw1 hp hp2
    obtain ⟨n, h1, hm⟩ := num_ev b hl p ([8, 14, 4, 30, 0, 1] : List Int) hp (by omega) (by simp) (by simp)
    have hn : 0 ≤ n ∧ n ≤ 30 := by simp at hm; omega
    obtain ⟨e, rfl⟩ := Int.eq_ofNat_of_zero_le hn.1
    obtain ⟨vs, xs, q, h, k1, k2, k3, k4⟩ := l12Jobs_l1 b hl ws ⟨by omega, by omega⟩ e [] (p + 1) (by simp; omega) (by omega) (by omega)
    exact ⟨vs, xs, q, Ev.step (fun k => by rw [spec_l12Jobs.l0]) (evF (by omega) (Ev.bind h1 h)), k1, k2, by omega, by omega⟩
  | succ d ih =>
    intro ws p hw hw1 hp hp2
    obtain ⟨n, h1, hm⟩ := num_ev b hl p ([1, 2, 1, 3, 9] : List Int) hp (by omega) (by simp) (by simp)
    obtain ⟨vs, xs, q, h, k1, k2, k3, k4⟩ := ih (ws ++ [n]) (p + 1) (by simp; omega) (by simp; omega) (by omega) (by omega)
    refine ⟨vs, xs, q, Ev.step (fun k => by rw [spec_l12Jobs.l0]) ?_, k1, k2, by omega, by omega⟩
    refine evT (by omega) (Ev.bind h1 (evT (by omega) ?_))
    rw [show wrap64 (((d + 1 : Nat) : Int) - 1) = (d : Int) by rw [w64 (by omega) (by omega)]; omega]
    exact h
theorem l12Jobs_ev (b : List Int) (hl : Bs b) (p : Int) (hp : 0 ≤ p) (hp2 : p ≤ 100000) :
    ∃ vs xs q, Ev (fun k => spec_l12Jobs.f k b p) (vs, xs, q) ∧ vs.length ≤ 5 ∧ xs.length ≤ 31 ∧ p ≤ q ∧ q ≤ p + 100 := by
  obtain ⟨n, h1, hm⟩ := num_ev b hl p ([2, 3, 4, 1] : List Int) hp (by omega) (by simp) (by simp)
  have hn : 1 ≤ n ∧ n ≤ 4 := by simp at hm; omega
  obtain ⟨d, rfl⟩ := Int.eq_ofNat_of_zero_le (show 0 ≤ n by omega)
  obtain ⟨vs, xs, q, h, k1, k2, k3, k4⟩ := l12Jobs_l0 b hl d [] (p + 1) (by simp; omega) (by simp; omega) (by omega) (by omega)
  refine ⟨vs, xs, q, ?_, k1, k2, by omega, by omega⟩
  simp only [spec_l12Jobs.f]
  exact Ev.bind h1 h

theorem order_l0 (b : List Int) (hl : Bs b) (js : List S50) (hj : js.length ≤ 31) : ∀ (d : Nat) (o : List Int) (p : Int), o.length + d ≤ 100 → 0 ≤ p → p + d ≤ 300000 →
    ∃ r q, Ev (fun k => spec_l12Order.l0 k js o (d : Int) b p) (r, q) ∧ r.length ≤ 101 ∧ p ≤ q ∧ q ≤ p + d + 2 := by
  intro d
  induction d with
  | zero =>
    intro o p ho hp hp2
    obtain ⟨v, h1, _⟩ := pick_ev b hl p 20 hp (by omega) (by omega)
    by_cases c0 : v = 0
    · obtain ⟨u, h2, _⟩ := num_ev b hl (p + 1) ([(-1), (js.length : Int)] : List Int) (by omega) (by omega) (by simp) (by simp)
      refine ⟨o ++ [u], p + 1 + 1, Ev.step (fun k => by rw [spec_l12Order.l0]) ?_, by simp; omega, by omega, by omega⟩
      exact evF (by omega) (Ev.bind h1 (evT c0 (Ev.bind h2 (evT (by omega) (Ev.now _)))))
    · refine ⟨o, p + 1, Ev.step (fun k => by rw [spec_l12Order.l0]) ?_, by omega, by omega, by omega⟩
      exact evF (by omega) (Ev.bind h1 (evF c0 (Ev.now _)))
  | succ d ih =>
    intro o p ho hp hp2
    have hmx : mx (js.length : Int) 1 ≤ 1000000000 := by unfold mx; split <;> omega
    obtain ⟨v, h1, _⟩ := pick_ev b hl p (mx (js.length : Int) 1) hp (by omega) hmx
    obtain ⟨r, q, h, k1, k2, k3⟩ := ih (o ++ [v]) (p + 1) (by simp; omega) (by omega) (by omega)
    refine ⟨r, q, Ev.step (fun k => by rw [spec_l12Order.l0]) ?_, k1, by omega, by omega⟩
    refine evT (by omega) (Ev.bind h1 (evT (by omega) ?_))
    rw [show wrap64 (((d + 1 : Nat) : Int) - 1) = (d : Int) by rw [w64 (by omega) (by omega)]; omega]
    exact h
theorem order_ev (b : List Int) (hl : Bs b) (js : List S50) (hj : js.length ≤ 31) (p : Int) (hp : 0 ≤ p) (hp2 : p ≤ 200000) : ∃ r q, Ev (fun k => spec_l12Order.f k b p js) (r, q) ∧ r.length ≤ 101 ∧ p ≤ q ∧ q ≤ p + 20 := by
  obtain ⟨v, h1, v0, v1⟩ := pick_ev b hl p 8 hp (by omega) (by omega)
  have hv := v1 (by omega)
  obtain ⟨d, rfl⟩ := Int.eq_ofNat_of_zero_le v0
  obtain ⟨r, q, h, k1, k2, k3⟩ := order_l0 b hl js hj d [] (p + 1) (by simp; omega) (by omega) (by omega)
  refine ⟨r, q, ?_, k1, by omega, by omega⟩
  simp only [spec_l12Order.f]
  exact Ev.bind h1 h
theorem drawWaits_ev (l : List Int) (hb : ∀ x ∈ l, (Lit.int .u8 x).wf = true) : ∃ js o a, Ev (fun k => spec_DrawWaitsBefore.f k l) (js, o, a) ∧ js.length ≤ 31 ∧ o.length ≤ 101 := by
  obtain ⟨b, ho, hl⟩ := open_ev l hb
  obtain ⟨vs, xs, q, h1, k1, k2, k3, k4⟩ := l12Jobs_ev b hl 0 (by omega) (by omega)
  obtain ⟨u, h2, _⟩ := pick_ev b hl q 2 (by omega) (by omega) (by omega)
  by_cases c : u = 0
  · obtain ⟨r, hr, hrl⟩ := fair_ev vs (by omega) xs (by omega)
    obtain ⟨v, h3, _⟩ := pick_ev b hl (q + 1) (wrap64 ((xs.length : Int) + 2)) (by omega) (by omega) (by rw [w64 (by omega) (by omega)]; omega)
    refine ⟨xs, r, wrap64 (v - 1), ?_, k2, by omega⟩
    simp only [spec_DrawWaitsBefore.f]
    exact evS ho (Ev.bind h1 (Ev.bind h2 (evT c (Ev.bind hr (Ev.bind h3 (Ev.now _))))))
  · obtain ⟨r, q2, hr, hrl, q0, q1⟩ := order_ev b hl xs k2 (q + 1) (by omega) (by omega)
    obtain ⟨v, h3, _⟩ := pick_ev b hl q2 (wrap64 ((xs.length : Int) + 2)) (by omega) (by omega) (by rw [w64 (by omega) (by omega)]; omega)
    refine ⟨xs, r, wrap64 (v - 1), ?_, k2, by omega⟩
    simp only [spec_DrawWaitsBefore.f]
    exact evS ho (Ev.bind h1 (Ev.bind h2 (evF c (Ev.bind hr (Ev.bind h3 (Ev.now _))))))
theorem rd_take (l : List Int) (n j : Nat) (h : j < n) : rd (l.take n) (j : Int) = rd l (j : Int) := by
  simp only [rd, Int.toNat_natCast, List.getD_eq_getElem?_getD, List.getElem?_take, if_pos h]
theorem sumN_take (js : List S50) (l : List Int) (n : Nat) : ∀ m : Nat, m ≤ n → impl_WaitsBefore.sumN js (l.take n) m = impl_WaitsBefore.sumN js l m := by
  intro m
  induction m with
  | zero => intro _; rfl
  | succ m ih =>
    intro h
    show impl_WaitsBefore.sumN js (l.take n) m + _ = impl_WaitsBefore.sumN js l m + _
    rw [ih (by omega), rd_take l n m (by omega)]
theorem sumN_ge {js : List S50} {l : List Int} (h : l.all (impl_WaitsBefore.okI js) = true) : ∀ m : Nat, m ≤ l.length → (m : Int) ≤ impl_WaitsBefore.sumN js l m := by
  intro m
  induction m with
  | zero => intro _; exact Int.le_refl _
  | succ m ih =>
    intro hm
    have h1 := ih (by omega)
    have h2 := (impl_WaitsBefore.ok_at h m (by omega)).2.2.1
    show ((m + 1 : Nat) : Int) ≤ impl_WaitsBefore.sumN js l m + _
    omega
theorem all_take {js : List S50} {l : List Int} (h : l.all (impl_WaitsBefore.okI js) = true) (n : Nat) : (l.take n).all (impl_WaitsBefore.okI js) = true := by
  rw [List.all_eq_true] at h ⊢
  exact fun x hx => h x (List.mem_of_mem_take hx)
theorem waits_l0 (js : List S50) (hjs : js.length ≤ 1000) (l : List Int) (hl : l.length ≤ 1000) (a : Int) {m : Nat} (hm : At l a m) (ha : l.all (impl_WaitsBefore.okI js) = true) : ∀ d i : Nat, i + d = m →
    Ev (fun k => laws_FnWaits.l0 k js l a (impl_WaitsBefore.sumN js l m) (i : Int)) true := by
  have hml := hm.1
  intro d
  induction d with
  | zero =>
    intro i hi
    obtain rfl : i = m := by omega
    have e1 : wrap64 ((i : Int) + 1) = ((i + 1 : Nat) : Int) := by rw [w64 (by omega) (by omega)]; omega
    have n1 : 0 ≤ (i : Int) := by omega
    have n2 : (i : Int) < (l.length : Int) := by omega
    have n3 : 0 ≤ ((i + 1 : Nat) : Int) := by omega
    have n4 : ((i + 1 : Nat) : Int) ≤ (l.length : Int) := by omega
    have n5 : (i : Int) ≤ (l.length : Int) := by omega
    have hge := sumN_ge ha i (by omega)
    obtain ⟨v1, hv1, w1⟩ := implWaits_ev js (l.take (i + 1)) (by rw [List.length_take]; omega) a
    obtain ⟨v2, hv2, w2⟩ := implWaits_ev js (l.take i) (by rw [List.length_take]; omega) a
    have at1 : At (l.take (i + 1)) a i := ⟨by rw [List.length_take]; omega, by rw [rd_take l (i + 1) i (by omega)]; exact hm.2.1, fun j hj => by rw [rd_take l (i + 1) j (by omega)]; exact hm.2.2 j hj⟩
    have e2 : v1 = impl_WaitsBefore.sumN js l i := by
      have := w1.uniq (.inr ⟨all_take ha (i + 1), i, at1, rfl⟩)
      rw [this]
      exact sumN_take js l (i + 1) i (by omega)
    have e3 : v2 = -1 := w2.uniq (.inl ⟨rfl, .inr fun j hj => by
      have hj2 : j < i := by rw [List.length_take] at hj; omega
      rw [rd_take l i j hj2]; exact hm.2.2 j hj2⟩)
    refine Ev.step (fun k => by rw [laws_FnWaits.l0]) ?_
    refine evT n1 (evT n2 (evT hm.2.1 ?_))
    rw [e1, Int.toNat_natCast, Int.toNat_natCast]
    refine evT n3 (evT n4 (Ev.bind hv1 (evT e2 (evT n5 (Ev.bind hv2 (evT e3 (evE (Ev.now _) ?_)))))))
    exact decide_eq_true hge
  | succ d ih =>
    intro i hi
    have e1 : wrap64 ((i : Int) + 1) = ((i + 1 : Nat) : Int) := by rw [w64 (by omega) (by omega)]; omega
    have n1 : 0 ≤ (i : Int) := by omega
    have n2 : (i : Int) < (l.length : Int) := by omega
    refine Ev.step (fun k => by rw [laws_FnWaits.l0]) ?_
    refine evT n1 (evT n2 (evF (hm.2.2 i (by omega)) ?_))
    rw [e1]
    exact ih (i + 1) (by omega)
theorem q_FnWaits : laws_FnWaits.Pure := by
  intro l hl1 hl2 hb
  refine Ev.rounds ?_
  simp only [laws_FnWaits.f]
  by_cases h0 : (l.length : Int) > 1048576
  · exact evT h0 (Ev.now _)
  obtain ⟨js, o, a, hd, hjl, hol⟩ := drawWaits_ev l hb
  obtain ⟨v, hi, hs, hw⟩ := waits_ev js (by omega) o (by omega) a
  refine evF h0 (Ev.bind hd (Ev.bind hi (Ev.bind hs (evT rfl (Ev.step (fun k => by rw [laws_FnWaits.j0]) ?_)))))
  rcases hw with ⟨rfl, _⟩ | ⟨hall, m, hm, rfl⟩
  · exact evT (by decide) (Ev.bind hs (evT rfl (Ev.now _)))
  · have hge := sumN_ge hall m (by have := hm.1; omega)
    refine evF (by simp only [decide_eq_true_eq]; omega) ?_
    exact waits_l0 js (by omega) o (by omega) a hm hall m 0 (by omega)

end Go.Proofs.Ytecdngoknkmncaa.Q
