/- Plain lemmas on what the printed functions compute (seat Ytnagdcigoaeicaa, module QServed). Conditions: each lemma's own. -/
import Derived.Test.YtnagdcigoaeicaaQs
import Derived.Test.YtnagdcigoaeicaaPA0
import Derived.Test.YtnagdcigoaeicaaPA2
import Derived.Test.YtnagdcigoaeicaaPA4
import Derived.Test.YtnagdcigoaeicaaPA6
set_option linter.unusedVariables false
set_option linter.unusedSimpArgs false
namespace Go.Proofs.Ytnagdcigoaeicaa.Q
open Go Go.RowKit Go.Proofs.Ytnagdcigoaeicaa.PA Go.Proofs.YtnagdcigoaeicaaW.PrintWords Go.Proofs.YtnagdcigoaeicaaW.PrintLast

theorem open_ev (l : List Int) (hb : ∀ x ∈ l, (Lit.int .u8 x).wf = true) : ∃ b, spec_l21Open.f l = some (b, 0) ∧ Bs b := by
  unfold spec_l21Open.f
  by_cases h : (l.length : Int) > 2000
  · refine ⟨l.take 2000, by rw [if_pos h, if_pos (by omega)], by simp; omega, fun x hx => lit_u8 (hb x (List.mem_of_mem_take hx))⟩
  · exact ⟨l, by rw [if_neg h], by omega, fun x hx => lit_u8 (hb x hx)⟩
theorem pick_ev (l : List Int) (hl : Bs l) (p n : Int) (hp : 0 ≤ p) (hp2 : p ≤ 500000) (hn : n ≤ 1000000000) :
    ∃ v, Ev (fun k => spec_l21Rd_pick.f k l p n) (v, p + 1) ∧ 0 ≤ v ∧ (1 ≤ n → v < n) := by
  obtain ⟨hl1, hb⟩ := hl
  have e1 : wrap64 (p + 1) = p + 1 := w64 (by omega) (by omega)
  simp only [spec_l21Rd_pick.f, e1]
  by_cases h1 : n < 1
  · refine ⟨0, evT h1 (Ev.step (fun k => by rw [spec_l21Rd_pick.j0]) (evT rfl (Ev.now _))), by omega, by omega⟩
  · by_cases h2 : l.length = 0
    · have e2 : ((l.length : Int) == 0) = true := by simpa using h2
      refine ⟨0, evF h1 (Ev.step (fun k => by rw [spec_l21Rd_pick.j0]) (evT e2 (Ev.now _))), by omega, by omega⟩
    · have e2 : ¬ (((l.length : Int) == 0) = true) := by simpa using h2
      have e3 : wrap64 (p + 1 - 1) = p := by rw [w64 (by omega) (by omega)]; omega
      by_cases h3 : p < (l.length : Int)
      · have hr := hb _ (rd_mem l p hp h3)
        have hv := tmod_bounds (wrap64 (rd l p)) n (by rw [w64 (by omega) (by omega)]; omega) (by omega)
        refine ⟨Int.tmod (wrap64 (rd l p)) n, evF h1 (Ev.step (fun k => by rw [spec_l21Rd_pick.j0]) ?_), hv.1, fun _ => hv.2⟩
        rw [e3]
        exact evF e2 (evT h3 (evT hp (evF (by omega) (Ev.now _))))
      · have e4 : wrap64 (p * 7) = p * 7 := w64 (by omega) (by omega)
        have e5 : wrap64 (p * 7 + 3) = p * 7 + 3 := w64 (by omega) (by omega)
        have b1 := tmod_bounds p (l.length : Int) hp (by omega)
        have b2 := tmod_bounds (p * 7 + 3) (l.length : Int) (by omega) (by omega)
        have r1 := hb _ (rd_mem l _ b1.1 b1.2)
        have r2 := hb _ (rd_mem l _ b2.1 b2.2)
        have q1 := tdiv_bounds p hp (l.length : Int) (by omega)
        have hx := mix_ok _ _ p _ r1 r2 hp (by omega) q1.1 (by omega)
        generalize hX : wrap64 ((wrap64 ((wrap64 ((wrap64 ((wrap64 (rd l (Int.tmod p (l.length : Int)))) * 131)) + (wrap64 ((wrap64 (rd l (Int.tmod (p * 7 + 3) (l.length : Int)))) * 1117)))) + (wrap64 (p * 29)))) + (wrap64 ((wrap64 (Int.tdiv p (l.length : Int))) * 53))) = X at hx
        have q2 := tdiv_bounds X hx.1 64 (by omega)
        have q3 : wrap64 (X.tdiv 64) = X.tdiv 64 := w64 (by omega) (by omega)
        have hz := bits_xor_i64_nonneg X (wrap64 (X.tdiv 64)) hx.1 (by omega) (by omega) (by omega)
        have hv := tmod_bounds _ n hz (by omega)
        refine ⟨Int.tmod (Go.bits .xor .i64 X (wrap64 (X.tdiv 64))) n, evF h1 (Ev.step (fun k => by rw [spec_l21Rd_pick.j0]) ?_), hv.1, fun _ => hv.2⟩
        simp only [e3, e4, e5, hX]
        exact evF e2 (evF h3 (evF (by omega) (evT b1.1 (evT b1.2 (evT b2.1 (evT b2.2 (evF (by omega) (Ev.now _))))))))
theorem num_ev (l : List Int) (hl : Bs l) (p : Int) (xs : List Int) (hp : 0 ≤ p) (hp2 : p ≤ 500000) (hn : 1 ≤ xs.length) (hn2 : xs.length ≤ 1000) :
    ∃ v, Ev (fun k => spec_l21Rd_num.f k l p xs) (v, p + 1) ∧ v ∈ xs := by
  obtain ⟨v, h, h0, h1⟩ := pick_ev l hl p (xs.length : Int) hp hp2 (by omega)
  refine ⟨rd xs v, ?_, rd_mem xs v h0 (h1 (by omega))⟩
  simp only [spec_l21Rd_num.f]
  exact Ev.bind h (evT h0 (evT (h1 (by omega)) (Ev.now _)))

/-! ### lists that are compared, copied, marked -/
theorem wnInts_l0 (a b : List Int) (hl : a.length = b.length) (hb : a.length ≤ 1000000000000) : ∀ d i : Nat, i + d = a.length →
    Ev (fun k => laws_wnInts.l0 k b a (a.length : Int) (i : Int)) (decide (a.drop i = b.drop i)) := by
  intro d
  induction d with
  | zero =>
    intro i hi
    refine Ev.step (fun k => by rw [laws_wnInts.l0]) ?_
    refine evF (by omega) (evE (Ev.now _) ?_)
    rw [List.drop_of_length_le (by omega), List.drop_of_length_le (by omega)]
    simp
  | succ d ih =>
    intro i hi
    have ha : a.drop i = a[i]'(by omega) :: a.drop (i + 1) := List.drop_eq_getElem_cons (by omega)
    have hb' : b.drop i = b[i]'(by omega) :: b.drop (i + 1) := List.drop_eq_getElem_cons (by omega)
    have e : wrap64 ((i : Int) + 1) = ((i + 1 : Nat) : Int) := by rw [w64 (by omega) (by omega)]; omega
    refine Ev.step (fun k => by rw [laws_wnInts.l0]) ?_
    refine evT (by omega) (evT (by omega) (evT (by omega) (evT (by omega) ?_)))
    rw [rd_at b i (by omega), rd_at a i (by omega), e]
    by_cases h : b[i]'(by omega) = a[i]'(by omega)
    · refine evT h (evE (ih (i + 1) (by omega)) ?_)
      rw [ha, hb']
      exact decide_eq_decide.2 ⟨fun e => by rw [h, e], fun e => (List.cons.inj e).2⟩
    · refine evF h (evE (Ev.now _) ?_)
      rw [ha, hb']
      exact (decide_eq_false (fun e => h (List.cons.inj e).1.symm)).symm
theorem wnInts_ev (a b : List Int) (hb : a.length ≤ 1000000000000) : Ev (fun k => laws_wnInts.f k a b) (decide (a = b)) := by
  simp only [laws_wnInts.f]
  by_cases h : a.length = b.length
  · exact evT (by omega) (evE (wnInts_l0 a b h hb a.length 0 (by omega)) (by simp))
  · exact evF (by omega) (evE (Ev.now _) (by simp; intro e; exact h (by rw [e])))

/-! ### draws of weights and jobs -/
theorem l12Jobs_l1 (b : List Int) (hl : Bs b) (ws : List Int) (hw : 1 ≤ ws.length ∧ ws.length ≤ 4) : ∀ (d : Nat) (js : List S30) (p : Int), js.length + d ≤ 30 → 0 ≤ p → p + 2 * d ≤ 300000 →
    ∃ vs xs q, Ev (fun k => spec_l12Jobs.l1 k ws js (d : Int) b p) (vs, xs, q) ∧ vs.length ≤ 5 ∧ xs.length ≤ 31 ∧ p ≤ q ∧ q ≤ p + 2 * d + 2 := by
  intro d
  induction d with
  | zero =>
    intro js p hj hp hp2
    obtain ⟨v, h1, v0, v1⟩ := pick_ev b hl p 60 hp (by omega) (by omega)
    by_cases c0 : v = 0
    · obtain ⟨u, h2, _⟩ := num_ev b hl (p + 1) ([0, 10] : List Int) (by omega) (by omega) (by simp) (by simp)
      refine ⟨ws.set (0 : Int).toNat u, js, p + 1 + 1, Ev.step (fun k => by rw [spec_l12Jobs.l1]) ?_, by rw [List.length_set]; omega, by omega, by omega, by omega⟩
      exact evF (by omega) (Ev.bind h1 (evT c0 (Ev.bind h2 (evT (by omega) (Ev.now _)))))
    · by_cases c1 : v = 1
      · refine ⟨ws, js ++ [(⟨(ws.length : Int), 1⟩ : S30)], p + 1, Ev.step (fun k => by rw [spec_l12Jobs.l1]) ?_, by omega, by simp; omega, by omega, by omega⟩
        exact evF (by omega) (Ev.bind h1 (evF c0 (evT c1 (evT (by omega) (Ev.now _)))))
      · by_cases c2 : v = 2
        · obtain ⟨u, h2, _⟩ := num_ev b hl (p + 1) ([0, 10] : List Int) (by omega) (by omega) (by simp) (by simp)
          refine ⟨ws, js ++ [(⟨0, u⟩ : S30)], p + 1 + 1, Ev.step (fun k => by rw [spec_l12Jobs.l1]) ?_, by omega, by simp; omega, by omega, by omega⟩
          exact evF (by omega) (Ev.bind h1 (evF c0 (evF c1 (evT c2 (Ev.bind h2 (evT (by omega) (Ev.now _)))))))
        · by_cases c3 : v = 3
          · obtain ⟨u, h2, hm⟩ := num_ev b hl (p + 1) ([0, 5] : List Int) (by omega) (by omega) (by simp) (by simp)
            have hu : 0 ≤ u ∧ u ≤ 5 := by simp at hm; omega
            refine ⟨([1, 1, 1, 1, 1] : List Int).take u.toNat, js, p + 1 + 1, Ev.step (fun k => by rw [spec_l12Jobs.l1]) ?_, by rw [List.length_take]; show min _ 5 ≤ 5; omega, by omega, by omega, by omega⟩
            exact evF (by omega) (Ev.bind h1 (evF c0 (evF c1 (evF c2 (evT c3 (evS rfl (Ev.bind h2 (evT hu.1 (evT (by show u ≤ ((5 : Nat) : Int); omega) (Ev.now _))))))))))
          · refine ⟨ws, js, p + 1, Ev.step (fun k => by rw [spec_l12Jobs.l1]) ?_, by omega, by omega, by omega, by omega⟩
            exact evF (by omega) (Ev.bind h1 (evF c0 (evF c1 (evF c2 (evF c3 (Ev.now _))))))
  | succ d ih =>
    intro js p hj hp hp2
    obtain ⟨u, h1, u0, u1⟩ := pick_ev b hl p (ws.length : Int) hp (by omega) (by omega)
    obtain ⟨v, h2, v0, v1⟩ := pick_ev b hl (p + 1) 9 (by omega) (by omega) (by omega)
    obtain ⟨vs, xs, q, h, k1, k2, k3, k4⟩ := ih (js ++ [(⟨u, wrap64 (1 + v)⟩ : S30)]) (p + 1 + 1) (by simp; omega) (by omega) (by omega)
    refine ⟨vs, xs, q, Ev.step (fun k => by rw [spec_l12Jobs.l1]) ?_, k1, k2, by omega, by omega⟩
    refine evT (by omega) (Ev.bind h1 (Ev.bind h2 (evT (by omega) ?_)))
    rw [show wrap64 (((d + 1 : Nat) : Int) - 1) = (d : Int) by rw [w64 (by omega) (by omega)]; omega]
    exact h
theorem l12Jobs_l0 (b : List Int) (hl : Bs b) : ∀ (d : Nat) (ws : List Int) (p : Int), ws.length + d ≤ 4 → 1 ≤ ws.length + d → 0 ≤ p → p + d ≤ 200000 →
    ∃ vs xs q, Ev (fun k => spec_l12Jobs.l0 k ws (d : Int) b p) (vs, xs, q) ∧ vs.length ≤ 5 ∧ xs.length ≤ 31 ∧ p ≤ q ∧ q ≤ p + d + 70 := by
  intro d
  induction d with
  | zero =>
    intro ws p hw hw1 hp hp2
    obtain ⟨n, h1, hm⟩ := num_ev b hl p ([8, 14, 4, 30, 0, 1] : List Int) hp (by omega) (by simp) (by simp)
    have hn : 0 ≤ n ∧ n ≤ 30 := by simp at hm; omega
    obtain ⟨e, rfl⟩ := Int.eq_ofNat_of_zero_le hn.1
    obtain ⟨vs, xs, q, h, k1, k2, k3, k4⟩ := l12Jobs_l1 b hl ws ⟨by omega, by omega⟩ e [] (p + 1) (by simp; omega) (by omega) (by omega)
    exact ⟨vs, xs, q, Ev.step (fun k => by rw [spec_l12Jobs.l0]) (evF (by omega) (Ev.bind h1 h)), k1, k2, by omega, by omega⟩
  | succ d ih =>
    intro ws p hw hw1 hp hp2
    obtain ⟨n, h1, hm⟩ := num_ev b hl p ([1, 2, 1, 3, 9] : List Int) hp (by omega) (by simp) (by simp)
    obtain ⟨vs, xs, q, h, k1, k2, k3, k4⟩ := ih (ws ++ [n]) (p + 1) (by simp; omega) (by simp; omega) (by omega) (by omega)
    refine ⟨vs, xs, q, Ev.step (fun k => by rw [spec_l12Jobs.l0]) ?_, k1, k2, by omega, by omega⟩
    refine evT (by omega) (Ev.bind h1 (evT (by omega) ?_))
    rw [show wrap64 (((d + 1 : Nat) : Int) - 1) = (d : Int) by rw [w64 (by omega) (by omega)]; omega]
    exact h
theorem l12Jobs_ev (b : List Int) (hl : Bs b) (p : Int) (hp : 0 ≤ p) (hp2 : p ≤ 100000) :
    ∃ vs xs q, Ev (fun k => spec_l12Jobs.f k b p) (vs, xs, q) ∧ vs.length ≤ 5 ∧ xs.length ≤ 31 ∧ p ≤ q ∧ q ≤ p + 100 := by
  obtain ⟨n, h1, hm⟩ := num_ev b hl p ([2, 3, 4, 1] : List Int) hp (by omega) (by simp) (by simp)
  have hn : 1 ≤ n ∧ n ≤ 4 := by simp at hm; omega
  obtain ⟨d, rfl⟩ := Int.eq_ofNat_of_zero_le (show 0 ≤ n by omega)
  obtain ⟨vs, xs, q, h, k1, k2, k3, k4⟩ := l12Jobs_l0 b hl d [] (p + 1) (by simp; omega) (by simp; omega) (by omega) (by omega)
  refine ⟨vs, xs, q, ?_, k1, k2, by omega, by omega⟩
  simp only [spec_l12Jobs.f]
  exact Ev.bind h1 h

theorem order_l0 (b : List Int) (hl : Bs b) (js : List S30) (hj : js.length ≤ 31) : ∀ (d : Nat) (o : List Int) (p : Int), o.length + d ≤ 100 → 0 ≤ p → p + d ≤ 300000 →
    ∃ r q, Ev (fun k => spec_l12Order.l0 k js o (d : Int) b p) (r, q) ∧ r.length ≤ 101 ∧ p ≤ q ∧ q ≤ p + d + 2 := by
  intro d
  induction d with
  | zero =>
    intro o p ho hp hp2
    obtain ⟨v, h1, _⟩ := pick_ev b hl p 20 hp (by omega) (by omega)
    by_cases c0 : v = 0
    · obtain ⟨u, h2, _⟩ := num_ev b hl (p + 1) ([(-1), (js.length : Int)] : List Int) (by omega) (by omega) (by simp) (by simp)
      refine ⟨o ++ [u], p + 1 + 1, Ev.step (fun k => by rw [spec_l12Order.l0]) ?_, by simp; omega, by omega, by omega⟩
      exact evF (by omega) (Ev.bind h1 (evT c0 (Ev.bind h2 (evT (by omega) (Ev.now _)))))
    · refine ⟨o, p + 1, Ev.step (fun k => by rw [spec_l12Order.l0]) ?_, by omega, by omega, by omega⟩
      exact evF (by omega) (Ev.bind h1 (evF c0 (Ev.now _)))
  | succ d ih =>
    intro o p ho hp hp2
    have hmx : mx (js.length : Int) 1 ≤ 1000000000 := by unfold mx; split <;> omega
    obtain ⟨v, h1, _⟩ := pick_ev b hl p (mx (js.length : Int) 1) hp (by omega) hmx
    obtain ⟨r, q, h, k1, k2, k3⟩ := ih (o ++ [v]) (p + 1) (by simp; omega) (by omega) (by omega)
    refine ⟨r, q, Ev.step (fun k => by rw [spec_l12Order.l0]) ?_, k1, by omega, by omega⟩
    refine evT (by omega) (Ev.bind h1 (evT (by omega) ?_))
    rw [show wrap64 (((d + 1 : Nat) : Int) - 1) = (d : Int) by rw [w64 (by omega) (by omega)]; omega]
    exact h
theorem order_ev (b : List Int) (hl : Bs b) (js : List S30) (hj : js.length ≤ 31) (p : Int) (hp : 0 ≤ p) (hp2 : p ≤ 200000) : ∃ r q, Ev (fun k => spec_l12Order.f k b p js) (r, q) ∧ r.length ≤ 101 ∧ p ≤ q ∧ q ≤ p + 20 := by
  obtain ⟨v, h1, v0, v1⟩ := pick_ev b hl p 8 hp (by omega) (by omega)
  have hv := v1 (by omega)
  obtain ⟨d, rfl⟩ := Int.eq_ofNat_of_zero_le v0
  obtain ⟨r, q, h, k1, k2, k3⟩ := order_l0 b hl js hj d [] (p + 1) (by simp; omega) (by omega) (by omega)
  refine ⟨r, q, ?_, k1, by omega, by omega⟩
  simp only [spec_l12Order.f]
  exact Ev.bind h1 h

/-! ### who has been served, class by class -/
def sv1 (l seen : List Int) (i : Int) : Bool := l.contains i && !seen.contains i
def svT (js : List S30) (l seen : List Int) (c : Int) : Nat → Int
  | 0 => 0
  | n + 1 => svT js l seen c n + (if (decide ((rd_T30 js (n : Int)).f0 = c) && sv1 l seen (n : Int)) = true then (rd_T30 js (n : Int)).f1 else 0)
theorem svT_nil (js : List S30) (seen : List Int) (c : Int) (n : Nat) : svT js [] seen c n = 0 := by
  induction n with
  | zero => rfl
  | succ n ih => simp [svT, ih, sv1]
theorem svT_seen (js : List S30) {k : Int} {ks seen : List Int} (h : seen.contains k = true) (c : Int) (n : Nat) : svT js (k :: ks) seen c n = svT js ks seen c n := by
  induction n with
  | zero => rfl
  | succ n ih =>
    have e : sv1 (k :: ks) seen (n : Int) = sv1 ks seen (n : Int) := by
      unfold sv1
      by_cases ek : (n : Int) = k
      · rw [ek, h]; simp
      · simp [List.contains_cons, ek]
    rw [svT, svT, ih, e]
theorem svT_new (js : List S30) {k : Int} {ks seen : List Int} (h : seen.contains k = false) (hk : 0 ≤ k) (c : Int) (n : Nat) :
    svT js (k :: ks) seen c n = svT js ks (seen ++ [k]) c n + (if k < (n : Int) ∧ (rd_T30 js k).f0 = c then (rd_T30 js k).f1 else 0) := by
  induction n with
  | zero => rw [svT, svT, if_neg (by omega)]; rfl
  | succ n ih =>
    rw [svT, svT, ih]
    by_cases ek : (n : Int) = k
    · have e1 : sv1 (k :: ks) seen (n : Int) = true := by rw [ek]; unfold sv1; rw [h]; simp
      have e2 : sv1 ks (seen ++ [k]) (n : Int) = false := by rw [ek]; unfold sv1; simp
      rw [e1, e2, ek, if_neg (show ¬ (k < k ∧ _) by omega)]
      by_cases ec : (rd_T30 js k).f0 = c
      · rw [decide_eq_true ec, if_pos (by rfl), if_neg (by decide), if_pos ⟨by omega, ec⟩]
      · rw [decide_eq_false ec, if_neg (by decide), if_neg (by decide), if_neg (fun z => ec z.2)]
    · have e1 : sv1 (k :: ks) seen (n : Int) = sv1 ks (seen ++ [k]) (n : Int) := by
        unfold sv1
        simp [List.contains_cons, ek]
      rw [e1]
      have e2 : (k < ((n + 1 : Nat) : Int) ∧ (rd_T30 js k).f0 = c) ↔ (k < (n : Int) ∧ (rd_T30 js k).f0 = c) := ⟨fun z => ⟨by omega, z.2⟩, fun z => ⟨by omega, z.2⟩⟩
      have e3 : (if k < ((n + 1 : Nat) : Int) ∧ (rd_T30 js k).f0 = c then (rd_T30 js k).f1 else 0) = (if k < (n : Int) ∧ (rd_T30 js k).f0 = c then (rd_T30 js k).f1 else 0) := by
        by_cases z : k < (n : Int) ∧ (rd_T30 js k).f0 = c
        · rw [if_pos z, if_pos (e2.2 z)]
        · rw [if_neg z, if_neg (fun y => z (e2.1 y))]
      rw [e3]
      omega
theorem svT_le {js : List S30} {m : Nat} (hj : js.all (jok m) = true) (l seen : List Int) (c : Int) : ∀ n : Nat, n ≤ js.length → 0 ≤ svT js l seen c n ∧ svT js l seen c n ≤ 9 * (n : Int) := by
  intro n
  induction n with
  | zero => intro _; exact ⟨Int.le_refl _, Int.le_refl _⟩
  | succ n ih =>
    intro hn
    have h1 := ih (by omega)
    have h2 := job_ok hj (k := (n : Int)) ⟨by omega, by omega⟩
    rw [svT]
    split <;> omega
def inR (js : List S30) (l : List Int) : Prop := ∀ k ∈ l, 0 ≤ k ∧ k ≤ (js.length : Int) - 1
theorem go_range {js : List S30} : ∀ (l seen out r : List Int), impl_ServedBy.go js seen l out = some r → r ≠ [] → js.all (jok out.length) = true → inR js l := by
  intro l
  induction l with
  | nil => intro _ _ _ _ _ _ k hk; simp at hk
  | cons k ks ih =>
    intro seen out r hg hr hj
    by_cases hk : 0 ≤ k ∧ k ≤ (js.length : Int) - 1
    · obtain ⟨h1, h2, _⟩ := job_ok hj hk
      rw [go_in hk] at hg
      have : inR js ks := by
        by_cases hs : seen.contains k = true
        · rw [if_pos hs] at hg; exact ih seen out r hg hr hj
        · rw [if_neg hs, if_pos h1, if_pos h2] at hg
          exact ih _ _ r hg hr (by rw [List.length_set]; exact hj)
      intro x hx
      rcases List.mem_cons.1 hx with rfl | hx
      · exact hk
      · exact this x hx
    · rw [go_out hk] at hg
      exact absurd (Option.some.inj hg).symm hr
theorem rd_set (l : List Int) (i c : Nat) (v : Int) (hc : c < l.length) : rd (l.set i v) (c : Int) = if i = c then v else rd l (c : Int) := by
  simp only [rd, Int.toNat_natCast, List.getD_eq_getElem?_getD, List.getElem?_set]
  by_cases e : i = c
  · subst e; simp [hc]
  · simp [e]
theorem go_sum {js : List S30} (hjl : js.length ≤ 60) : ∀ (l seen out r : List Int), inR js l → js.all (jok out.length) = true → (∀ c : Nat, c < out.length → 0 ≤ rd out (c : Int) ∧ rd out (c : Int) + svT js l seen (c : Int) js.length ≤ 1000) →
    impl_ServedBy.go js seen l out = some r → r.length = out.length ∧ ∀ c : Nat, c < out.length → rd r (c : Int) = rd out (c : Int) + svT js l seen (c : Int) js.length := by
  intro l
  induction l with
  | nil =>
    intro seen out r _ _ _ hg
    obtain rfl := Option.some.inj hg
    exact ⟨rfl, fun c _ => by rw [svT_nil]; omega⟩
  | cons k ks ih =>
    intro seen out r hR hj hB hg
    have hk := hR k (by simp)
    have hR' : inR js ks := fun x hx => hR x (by simp [hx])
    obtain ⟨h1, h2, h3, h4⟩ := job_ok hj hk
    rw [go_in hk] at hg
    by_cases hs : seen.contains k = true
    · rw [if_pos hs] at hg
      obtain ⟨g1, g2⟩ := ih seen out r hR' hj (fun c hc => by have := hB c hc; rw [svT_seen js hs] at this; exact this) hg
      exact ⟨g1, fun c hc => by rw [svT_seen js hs]; exact g2 c hc⟩
    · rw [if_neg hs, if_pos h1, if_pos h2] at hg
      rw [Bool.not_eq_true] at hs
      obtain ⟨m, hm⟩ := Int.eq_ofNat_of_zero_le h1
      rw [hm, Int.toNat_natCast] at hg
      have hml : m < out.length := by omega
      have hBm := hB m hml
      have hTm := svT_new js (ks := ks) hs hk.1 (m : Int) js.length
      rw [if_pos ⟨by omega, hm⟩] at hTm
      have hT0 := (svT_le hj ks (seen ++ [k]) (m : Int) js.length (Nat.le_refl _)).1
      rw [w64 (by omega) (by omega)] at hg
      have hB' : ∀ c : Nat, c < (out.set m (rd out (m : Int) + (rd_T30 js k).f1)).length → 0 ≤ rd (out.set m (rd out (m : Int) + (rd_T30 js k).f1)) (c : Int) ∧ rd (out.set m (rd out (m : Int) + (rd_T30 js k).f1)) (c : Int) + svT js ks (seen ++ [k]) (c : Int) js.length ≤ 1000 := by
        intro c hc
        rw [List.length_set] at hc
        rw [rd_set out m c _ hc]
        have hBc := hB c hc
        by_cases e : m = c
        · subst e; rw [if_pos rfl]; omega
        · rw [if_neg e]
          rw [svT_new js hs hk.1, if_neg (fun z => e (by have := z.2; omega))] at hBc
          omega
      obtain ⟨g1, g2⟩ := ih (seen ++ [k]) _ r hR' (by rw [List.length_set]; exact hj) hB' hg
      rw [List.length_set] at g1
      refine ⟨g1, fun c hc => ?_⟩
      rw [g2 c (by rw [List.length_set]; exact hc), rd_set out m c _ hc, svT_new js hs hk.1]
      by_cases e : m = c
      · subst e; rw [if_pos rfl, if_pos ⟨by omega, hm⟩]; omega
      · rw [if_neg e, if_neg (fun z => e (by have := z.2; omega))]; omega
theorem go_done {js : List S30} : ∀ (b seen out : List Int), (∀ k ∈ b, (0 ≤ k ∧ k ≤ (js.length : Int) - 1) ∧ seen.contains k = true) → impl_ServedBy.go js seen b out = some out := by
  intro b
  induction b with
  | nil => intro _ _ _; rfl
  | cons k ks ih =>
    intro seen out h
    obtain ⟨h1, h2⟩ := h k (by simp)
    rw [go_in h1, if_pos h2]
    exact ih seen out (fun x hx => h x (by simp [hx]))
theorem go_twice {js : List S30} : ∀ (a seen b out r : List Int), inR js a → js.all (jok out.length) = true → (∀ k ∈ b, (0 ≤ k ∧ k ≤ (js.length : Int) - 1) ∧ (k ∈ seen ∨ k ∈ a)) → impl_ServedBy.go js seen a out = some r → impl_ServedBy.go js seen (a ++ b) out = some r := by
  intro a
  induction a with
  | nil =>
    intro seen b out r _ _ hb hg
    obtain rfl := Option.some.inj hg
    refine go_done b seen out (fun k hk => ⟨(hb k hk).1, ?_⟩)
    rcases (hb k hk).2 with h | h
    · simpa using h
    · simp at h
  | cons k ks ih =>
    intro seen b out r hR hj hb hg
    have hk := hR k (by simp)
    have hR' : inR js ks := fun x hx => hR x (by simp [hx])
    obtain ⟨h1, h2, _⟩ := job_ok hj hk
    rw [List.cons_append, go_in hk]
    rw [go_in hk] at hg
    by_cases hs : seen.contains k = true
    · rw [if_pos hs] at hg ⊢
      refine ih seen b out r hR' hj (fun x hx => ⟨(hb x hx).1, ?_⟩) hg
      rcases (hb x hx).2 with h | h
      · exact .inl h
      · rcases List.mem_cons.1 h with rfl | h
        · exact .inl (by simpa using hs)
        · exact .inr h
    · rw [if_neg hs, if_pos h1, if_pos h2] at hg ⊢
      refine ih (seen ++ [k]) b _ r hR' (by rw [List.length_set]; exact hj) (fun x hx => ⟨(hb x hx).1, ?_⟩) hg
      rcases (hb x hx).2 with h | h
      · exact .inl (by simp [h])
      · rcases List.mem_cons.1 h with rfl | h
        · exact .inl (by simp)
        · exact .inr h
theorem wnHas_l0 (l : List Int) (hl : l.length ≤ 1000000000000) (a : Int) : ∀ d i : Nat, i + d = l.length → Ev (fun k => laws_wnHas.l0 k a l (l.length : Int) (i : Int)) ((l.drop i).contains a) := by
  intro d
  induction d with
  | zero =>
    intro i hi
    rw [List.drop_of_length_le (by omega)]
    refine Ev.step (fun k => by rw [laws_wnHas.l0]) ?_
    exact evF (by omega) (Ev.now _)
  | succ d ih =>
    intro i hi
    have hil : i < l.length := by omega
    have e : wrap64 ((i : Int) + 1) = ((i + 1 : Nat) : Int) := by rw [w64 (by omega) (by omega)]; omega
    have hn := ih (i + 1) (by omega)
    rw [List.drop_eq_getElem_cons hil, List.contains_cons]
    refine Ev.step (fun k => by rw [laws_wnHas.l0]) ?_
    refine evT (by omega) (evT (by omega) (evT (by omega) ?_))
    rw [rd_at l i hil, e]
    by_cases h : l[i] = a
    · refine evT h (evE (Ev.now _) ?_)
      rw [h]; simp
    · refine evF h (evE hn ?_)
      have : (a == l[i]) = false := by simpa using fun z : a = l[i] => h z.symm
      rw [this, Bool.false_or]
theorem wnHas_ev (l : List Int) (hl : l.length ≤ 1000000000000) (a : Int) : Ev (fun k => laws_wnHas.f k l a) (l.contains a) := by
  simp only [laws_wnHas.f]
  exact evE (wnHas_l0 l hl a l.length 0 (by omega)) (by rw [List.drop_zero])
theorem servedIn (ws : List Int) (js : List S30) (hjl : js.length ≤ 60) {m : Nat} (hj : js.all (jok m) = true) (l : List Int) (hl : l.length ≤ 1000000000000) (done : List Int) (c n : Int) (hn : svT js l [] c js.length = n) {R : Bool}
    (hc : Ev (fun k => laws_FnServed.l0 k ws js l done done (done.length : Int) (wrap64 (c + 1))) R) : ∀ d i : Nat, i + d = js.length →
    Ev (fun k => laws_FnServed.l1 k ws js l done c n (svT js l [] c i) done (done.length : Int) c js (js.length : Int) (i : Int)) R := by
  intro d
  induction d with
  | zero =>
    intro i hi
    obtain rfl : i = js.length := by omega
    refine Ev.step (fun k => by rw [laws_FnServed.l1]) ?_
    exact evF (by omega) (evT hn hc)
  | succ d ih =>
    intro i hi
    have hil : i < js.length := by omega
    have e : wrap64 ((i : Int) + 1) = ((i + 1 : Nat) : Int) := by rw [w64 (by omega) (by omega)]; omega
    have h1 := ih (i + 1) (by omega)
    have hT := svT_le hj l [] c i (by omega)
    have hjo := job_ok hj (k := (i : Int)) ⟨by omega, by omega⟩
    rw [svT] at h1
    refine Ev.step (fun k => by rw [laws_FnServed.l1]) ?_
    refine evT (by omega) (evT (by omega) (evT (by omega) ?_))
    rw [e]
    by_cases hf : (rd_T30 js (i : Int)).f0 = c
    · refine evT hf (Ev.bind (wnHas_ev l hl (i : Int)) ?_)
      rw [decide_eq_true hf, Bool.true_and] at h1
      have es : sv1 l [] (i : Int) = l.contains (i : Int) := by simp [sv1]
      rw [es] at h1
      by_cases hh : l.contains (i : Int) = true
      · rw [if_pos hh] at h1
        refine evT hh ?_
        rw [w64 (x := svT js l [] c i + _) (by omega) (by omega)]
        exact h1
      · rw [if_neg hh, Int.add_zero] at h1
        exact evF hh h1
    · rw [decide_eq_false hf, Bool.false_and, if_neg (by decide), Int.add_zero] at h1
      exact evF hf h1
theorem servedOut (ws : List Int) (js : List S30) (hjv : jv ws js = true) (l : List Int) (hl : l.length ≤ 1000) (done : List Int) (hg : impl_ServedBy.go js [] l (List.replicate ws.length 0) = some done) (hd : done ≠ []) : ∀ d i : Nat, i + d = done.length →
    Ev (fun k => laws_FnServed.l0 k ws js l done done (done.length : Int) (i : Int)) true := by
  obtain ⟨h1, h2, h3⟩ := jv_elim hjv
  obtain ⟨k1, k2, _⟩ := wok_elim h1
  have h3' : js.all (jok (List.replicate ws.length (0 : Int)).length) = true := by rw [List.length_replicate]; exact h3
  have hR := go_range l [] _ done hg hd h3'
  have hz : ∀ c : Nat, c < ws.length → rd (List.replicate ws.length (0 : Int)) (c : Int) = 0 := fun c hc => by simp [rd, List.getD_eq_getElem?_getD, hc]
  obtain ⟨g1, g2⟩ := go_sum h2 l [] _ done hR h3' (fun c hc => by
    rw [List.length_replicate] at hc
    rw [hz c hc]
    have := svT_le h3 l [] (c : Int) js.length (Nat.le_refl _)
    omega) hg
  rw [List.length_replicate] at g1
  have hdl : done.length ≤ 4 := by omega
  intro d
  induction d with
  | zero =>
    intro i hi
    refine Ev.step (fun k => by rw [laws_FnServed.l0]) ?_
    have hq : Ev (fun k => laws_wnInts.f k done done) true := evE (wnInts_ev done done (by omega)) (by simp)
    have h2g : impl_ServedBy.f ws js (([] ++ l) ++ l) = some done := by
      unfold impl_ServedBy.f
      rw [implJobs_eq, hjv, Option.bind_some, if_pos rfl, List.nil_append]
      exact go_twice l [] l _ done hR h3' (fun k hk => ⟨hR k hk, .inr hk⟩) hg
    refine evF (by omega) (evS (a := ([] : List Int)) rfl (evT (by simp only [List.length_nil]; omega) (evS (a := ([] : List Int) ++ l) rfl (evT (by rw [List.length_append, List.length_nil]; omega) (evS h2g (Ev.bind hq (Ev.now _)))))))
  | succ d ih =>
    intro i hi
    have e : wrap64 ((i : Int) + 1) = ((i + 1 : Nat) : Int) := by rw [w64 (by omega) (by omega)]; omega
    refine Ev.step (fun k => by rw [laws_FnServed.l0]) ?_
    refine evT (by omega) (evT (by omega) (evT (by omega) ?_))
    refine servedIn ws js h2 h3 l (by omega) done (i : Int) _ ?_ (by rw [e]; exact ih (i + 1) (by omega)) js.length 0 (by omega)
    rw [g2 i (by rw [List.length_replicate]; omega), hz i (by omega)]
    omega
theorem drawServed_ev (l : List Int) (hb : ∀ x ∈ l, (Lit.int .u8 x).wf = true) : ∃ ws js o, Ev (fun k => spec_DrawServedBy.f k l) (ws, js, o) ∧ ws.length ≤ 5 ∧ js.length ≤ 31 ∧ o.length ≤ 101 := by
  obtain ⟨b, ho, hl⟩ := open_ev l hb
  obtain ⟨vs, xs, q, h1, k1, k2, k3, k4⟩ := l12Jobs_ev b hl 0 (by omega) (by omega)
  obtain ⟨r, q2, hr, hrl, q0, q1⟩ := order_ev b hl xs k2 q (by omega) (by omega)
  refine ⟨vs, xs, r, ?_, k1, k2, hrl⟩
  simp only [spec_DrawServedBy.f]
  exact evS ho (Ev.bind h1 (Ev.bind hr (Ev.now _)))
theorem q_FnServed : laws_FnServed.Pure := by
  intro l hl1 hl2 hb
  refine Ev.rounds ?_
  simp only [laws_FnServed.f]
  by_cases h0 : (l.length : Int) > 1048576
  · exact evT h0 (Ev.now _)
  obtain ⟨ws, js, o, hd, hw, hjl, hol⟩ := drawServed_ev l hb
  obtain ⟨r, hi, hs, hrl, hc⟩ := served_ev ws (by omega) js (by omega) o (by omega)
  have hq : Ev (fun k => laws_wnInts.f k r r) true := evE (wnInts_ev r r (by omega)) (by simp)
  refine evF h0 (Ev.bind hd (evS hi (Ev.bind hs (Ev.bind hq (evT rfl (Ev.step (fun k => by rw [laws_FnServed.j0]) ?_))))))
  by_cases hz : r = []
  · subst hz
    exact evT rfl (Ev.bind hs (Ev.bind hq (Ev.now _)))
  · have hz' : ¬ ((r.length : Int) == 0) = true := by
      intro e
      have e' : (r.length : Int) = 0 := by simpa using e
      exact hz (List.eq_nil_of_length_eq_zero (by omega))
    refine evF hz' ?_
    rcases hc with ⟨_, rfl⟩ | ⟨hjv, hg⟩
    · exact absurd rfl hz
    · exact servedOut ws js hjv o (by omega) r hg hz r.length 0 (by omega)

end Go.Proofs.Ytnagdcigoaeicaa.Q
