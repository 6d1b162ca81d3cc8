/- Plain lemmas on what the printed functions compute (seat Ytnagdcigoaeicaa, module QStrict). Conditions: each lemma's own. -/
import Derived.Test.YtnagdcigoaeicaaQt
import Derived.Test.YtnagdcigoaeicaaPA0
import Derived.Test.YtnagdcigoaeicaaPA1
import Derived.Test.YtnagdcigoaeicaaPA2
import Derived.Test.YtnagdcigoaeicaaPA5
import Derived.Test.YtnagdcigoaeicaaPA6
set_option linter.unusedVariables false
set_option linter.unusedSimpArgs false
namespace Go.Proofs.Ytnagdcigoaeicaa.Q
open Go Go.RowKit Go.Proofs.Ytnagdcigoaeicaa.PA Go.Proofs.YtnagdcigoaeicaaW.PrintWords Go.Proofs.YtnagdcigoaeicaaW.PrintLast

theorem open_ev (l : List Int) (hb : ∀ x ∈ l, (Lit.int .u8 x).wf = true) : ∃ b, spec_l21Open.f l = some (b, 0) ∧ Bs b := by
  unfold spec_l21Open.f
  by_cases h : (l.length : Int) > 2000
  · refine ⟨l.take 2000, by rw [if_pos h, if_pos (by omega)], by simp; omega, fun x hx => lit_u8 (hb x (List.mem_of_mem_take hx))⟩
  · exact ⟨l, by rw [if_neg h], by omega, fun x hx => lit_u8 (hb x hx)⟩
theorem pick_ev (l : List Int) (hl : Bs l) (p n : Int) (hp : 0 ≤ p) (hp2 : p ≤ 500000) (hn : n ≤ 1000000000) :
    ∃ v, Ev (fun k => spec_l21Rd_pick.f k l p n) (v, p + 1) ∧ 0 ≤ v ∧ (1 ≤ n → v < n) := by
  obtain ⟨hl1, hb⟩ := hl
  have e1 : wrap64 (p + 1) = p + 1 := w64 (by omega) (by omega)
  simp only [spec_l21Rd_pick.f, e1]
  by_cases h1 : n < 1
  · refine ⟨0, evT h1 (Ev.step (fun k => by rw [spec_l21Rd_pick.j0]) (evT rfl (Ev.now _))), by omega, by omega⟩
  · by_cases h2 : l.length = 0
    · have e2 : ((l.length : Int) == 0) = true := by simpa using h2
      refine ⟨0, evF h1 (Ev.step (fun k => by rw [spec_l21Rd_pick.j0]) (evT e2 (Ev.now _))), by omega, by omega⟩
    · have e2 : ¬ (((l.length : Int) == 0) = true) := by simpa using h2
      have e3 : wrap64 (p + 1 - 1) = p := by rw [w64 (by omega) (by omega)]; omega
      by_cases h3 : p < (l.length : Int)
      · have hr := hb _ (rd_mem l p hp h3)
        have hv := tmod_bounds (wrap64 (rd l p)) n (by rw [w64 (by omega) (by omega)]; omega) (by omega)
        refine ⟨Int.tmod (wrap64 (rd l p)) n, evF h1 (Ev.step (fun k => by rw [spec_l21Rd_pick.j0]) ?_), hv.1, fun _ => hv.2⟩
        rw [e3]
        exact evF e2 (evT h3 (evT hp (evF (by omega) (Ev.now _))))
      · have e4 : wrap64 (p * 7) = p * 7 := w64 (by omega) (by omega)
        have e5 : wrap64 (p * 7 + 3) = p * 7 + 3 := w64 (by omega) (by omega)
        have b1 := tmod_bounds p (l.length : Int) hp (by omega)
        have b2 := tmod_bounds (p * 7 + 3) (l.length : Int) (by omega) (by omega)
        have r1 := hb _ (rd_mem l _ b1.1 b1.2)
        have r2 := hb _ (rd_mem l _ b2.1 b2.2)
        have q1 := tdiv_bounds p hp (l.length : Int) (by omega)
        have hx := mix_ok _ _ p _ r1 r2 hp (by omega) q1.1 (by omega)
        generalize hX : wrap64 ((wrap64 ((wrap64 ((wrap64 ((wrap64 (rd l (Int.tmod p (l.length : Int)))) * 131)) + (wrap64 ((wrap64 (rd l (Int.tmod (p * 7 + 3) (l.length : Int)))) * 1117)))) + (wrap64 (p * 29)))) + (wrap64 ((wrap64 (Int.tdiv p (l.length : Int))) * 53))) = X at hx
        have q2 := tdiv_bounds X hx.1 64 (by omega)
        have q3 : wrap64 (X.tdiv 64) = X.tdiv 64 := w64 (by omega) (by omega)
        have hz := bits_xor_i64_nonneg X (wrap64 (X.tdiv 64)) hx.1 (by omega) (by omega) (by omega)
        have hv := tmod_bounds _ n hz (by omega)
        refine ⟨Int.tmod (Go.bits .xor .i64 X (wrap64 (X.tdiv 64))) n, evF h1 (Ev.step (fun k => by rw [spec_l21Rd_pick.j0]) ?_), hv.1, fun _ => hv.2⟩
        simp only [e3, e4, e5, hX]
        exact evF e2 (evF h3 (evF (by omega) (evT b1.1 (evT b1.2 (evT b2.1 (evT b2.2 (evF (by omega) (Ev.now _))))))))
theorem num_ev (l : List Int) (hl : Bs l) (p : Int) (xs : List Int) (hp : 0 ≤ p) (hp2 : p ≤ 500000) (hn : 1 ≤ xs.length) (hn2 : xs.length ≤ 1000) :
    ∃ v, Ev (fun k => spec_l21Rd_num.f k l p xs) (v, p + 1) ∧ v ∈ xs := by
  obtain ⟨v, h, h0, h1⟩ := pick_ev l hl p (xs.length : Int) hp hp2 (by omega)
  refine ⟨rd xs v, ?_, rd_mem xs v h0 (h1 (by omega))⟩
  simp only [spec_l21Rd_num.f]
  exact Ev.bind h (evT h0 (evT (h1 (by omega)) (Ev.now _)))

/-! ### lists that are compared, copied, marked -/
theorem wnInts_l0 (a b : List Int) (hl : a.length = b.length) (hb : a.length ≤ 1000000000000) : ∀ d i : Nat, i + d = a.length →
    Ev (fun k => laws_wnInts.l0 k b a (a.length : Int) (i : Int)) (decide (a.drop i = b.drop i)) := by
  intro d
  induction d with
  | zero =>
    intro i hi
    refine Ev.step (fun k => by rw [laws_wnInts.l0]) ?_
    refine evF (by omega) (evE (Ev.now _) ?_)
    rw [List.drop_of_length_le (by omega), List.drop_of_length_le (by omega)]
    simp
  | succ d ih =>
    intro i hi
    have ha : a.drop i = a[i]'(by omega) :: a.drop (i + 1) := List.drop_eq_getElem_cons (by omega)
    have hb' : b.drop i = b[i]'(by omega) :: b.drop (i + 1) := List.drop_eq_getElem_cons (by omega)
    have e : wrap64 ((i : Int) + 1) = ((i + 1 : Nat) : Int) := by rw [w64 (by omega) (by omega)]; omega
    refine Ev.step (fun k => by rw [laws_wnInts.l0]) ?_
    refine evT (by omega) (evT (by omega) (evT (by omega) (evT (by omega) ?_)))
    rw [rd_at b i (by omega), rd_at a i (by omega), e]
    by_cases h : b[i]'(by omega) = a[i]'(by omega)
    · refine evT h (evE (ih (i + 1) (by omega)) ?_)
      rw [ha, hb']
      exact decide_eq_decide.2 ⟨fun e => by rw [h, e], fun e => (List.cons.inj e).2⟩
    · refine evF h (evE (Ev.now _) ?_)
      rw [ha, hb']
      exact (decide_eq_false (fun e => h (List.cons.inj e).1.symm)).symm
theorem wnInts_ev (a b : List Int) (hb : a.length ≤ 1000000000000) : Ev (fun k => laws_wnInts.f k a b) (decide (a = b)) := by
  simp only [laws_wnInts.f]
  by_cases h : a.length = b.length
  · exact evT (by omega) (evE (wnInts_l0 a b h hb a.length 0 (by omega)) (by simp))
  · exact evF (by omega) (evE (Ev.now _) (by simp; intro e; exact h (by rw [e])))

/-! ### draws of weights and jobs -/
theorem l12Jobs_l1 (b : List Int) (hl : Bs b) (ws : List Int) (hw : 1 ≤ ws.length ∧ ws.length ≤ 4) : ∀ (d : Nat) (js : List S30) (p : Int), js.length + d ≤ 30 → 0 ≤ p → p + 2 * d ≤ 300000 →
    ∃ vs xs q, Ev (fun k => spec_l12Jobs.l1 k ws js (d : Int) b p) (vs, xs, q) ∧ vs.length ≤ 5 ∧ xs.length ≤ 31 ∧ p ≤ q ∧ q ≤ p + 2 * d + 2 := by
  intro d
  induction d with
  | zero =>
    intro js p hj hp hp2
    obtain ⟨v, h1, v0, v1⟩ := pick_ev b hl p 60 hp (by omega) (by omega)
    by_cases c0 : v = 0
    · obtain ⟨u, h2, _⟩ := num_ev b hl (p + 1) ([0, 10] : List Int) (by omega) (by omega) (by simp) (by simp)
      refine ⟨ws.set (0 : Int).toNat u, js, p + 1 + 1, Ev.step (fun k => by rw [spec_l12Jobs.l1]) ?_, by rw [List.length_set]; omega, by omega, by omega, by omega⟩
      exact evF (by omega) (Ev.bind h1 (evT c0 (Ev.bind h2 (evT (by omega) (Ev.now _)))))
    · by_cases c1 : v = 1
      · refine ⟨ws, js ++ [(⟨(ws.length : Int), 1⟩ : S30)], p + 1, Ev.step (fun k => by rw [spec_l12Jobs.l1]) ?_, by omega, by simp; omega, by omega, by omega⟩
        exact evF (by omega) (Ev.bind h1 (evF c0 (evT c1 (evT (by omega) (Ev.now _)))))
      · by_cases c2 : v = 2
        · obtain ⟨u, h2, _⟩ := num_ev b hl (p + 1) ([0, 10] : List Int) (by omega) (by omega) (by simp) (by simp)
          refine ⟨ws, js ++ [(⟨0, u⟩ : S30)], p + 1 + 1, Ev.step (fun k => by rw [spec_l12Jobs.l1]) ?_, by omega, by simp; omega, by omega, by omega⟩
          exact evF (by omega) (Ev.bind h1 (evF c0 (evF c1 (evT c2 (Ev.bind h2 (evT (by omega) (Ev.now _)))))))
        · by_cases c3 : v = 3
          · obtain ⟨u, h2, hm⟩ := num_ev b hl (p + 1) ([0, 5] : List Int) (by omega) (by omega) (by simp) (by simp)
            have hu : 0 ≤ u ∧ u ≤ 5 := by simp at hm; omega
            refine ⟨([1, 1, 1, 1, 1] : List Int).take u.toNat, js, p + 1 + 1, Ev.step (fun k => by rw [spec_l12Jobs.l1]) ?_, by rw [List.length_take]; show min _ 5 ≤ 5; omega, by omega, by omega, by omega⟩
            exact evF (by omega) (Ev.bind h1 (evF c0 (evF c1 (evF c2 (evT c3 (evS rfl (Ev.bind h2 (evT hu.1 (evT (by show u ≤ ((5 : Nat) : Int); omega) (Ev.now _))))))))))
          · refine ⟨ws, js, p + 1, Ev.step (fun k => by rw [spec_l12Jobs.l1]) ?_, by omega, by omega, by omega, by omega⟩
            exact evF (by omega) (Ev.bind h1 (evF c0 (evF c1 (evF c2 (evF c3 (Ev.now _))))))
  | succ d ih =>
    intro js p hj hp hp2
    obtain ⟨u, h1, u0, u1⟩ := pick_ev b hl p (ws.length : Int) hp (by omega) (by omega)
    obtain ⟨v, h2, v0, v1⟩ := pick_ev b hl (p + 1) 9 (by omega) (by omega) (by omega)
    obtain ⟨vs, xs, q, h, k1, k2, k3, k4⟩ := ih (js ++ [(⟨u, wrap64 (1 + v)⟩ : S30)]) (p + 1 + 1) (by simp; omega) (by omega) (by omega)
    refine ⟨vs, xs, q, Ev.step (fun k => by rw [spec_l12Jobs.l1]) ?_, k1, k2, by omega, by omega⟩
    refine evT (by omega) (Ev.bind h1 (Ev.bind h2 (evT (by omega) ?_)))
    rw [show wrap64 (((d + 1 : Nat) : Int) - 1) = (d : Int) by rw [w64 (by omega) (by omega)]; omega]
    exact h
theorem l12Jobs_l0 (b : List Int) (hl : Bs b) : ∀ (d : Nat) (ws : List Int) (p : Int), ws.length + d ≤ 4 → 1 ≤ ws.length + d → 0 ≤ p → p + d ≤ 200000 →
    ∃ vs xs q, Ev (fun k => spec_l12Jobs.l0 k ws (d : Int) b p) (vs, xs, q) ∧ vs.length ≤ 5 ∧ xs.length ≤ 31 ∧ p ≤ q ∧ q ≤ p + d + 70 := by
  intro d
  induction d with
  | zero =>
    intro ws p hw hw1 hp hp2
    obtain ⟨n, h1, hm⟩ := num_ev b hl p ([8, 14, 4, 30, 0, 1] : List Int) hp (by omega) (by simp) (by simp)
    have hn : 0 ≤ n ∧ n ≤ 30 := by simp at hm; omega
    obtain ⟨e, rfl⟩ := Int.eq_ofNat_of_zero_le hn.1
    obtain ⟨vs, xs, q, h, k1, k2, k3, k4⟩ := l12Jobs_l1 b hl ws ⟨by omega, by omega⟩ e [] (p + 1) (by simp; omega) (by omega) (by omega)
    exact ⟨vs, xs, q, Ev.step (fun k => by rw [spec_l12Jobs.l0]) (evF (by omega) (Ev.bind h1 h)), k1, k2, by omega, by omega⟩
  | succ d ih =>
    intro ws p hw hw1 hp hp2
    obtain ⟨n, h1, hm⟩ := num_ev b hl p ([1, 2, 1, 3, 9] : List Int) hp (by omega) (by simp) (by simp)
    obtain ⟨vs, xs, q, h, k1, k2, k3, k4⟩ := ih (ws ++ [n]) (p + 1) (by simp; omega) (by simp; omega) (by omega) (by omega)
    refine ⟨vs, xs, q, Ev.step (fun k => by rw [spec_l12Jobs.l0]) ?_, k1, k2, by omega, by omega⟩
    refine evT (by omega) (Ev.bind h1 (evT (by omega) ?_))
    rw [show wrap64 (((d + 1 : Nat) : Int) - 1) = (d : Int) by rw [w64 (by omega) (by omega)]; omega]
    exact h
theorem l12Jobs_ev (b : List Int) (hl : Bs b) (p : Int) (hp : 0 ≤ p) (hp2 : p ≤ 100000) :
    ∃ vs xs q, Ev (fun k => spec_l12Jobs.f k b p) (vs, xs, q) ∧ vs.length ≤ 5 ∧ xs.length ≤ 31 ∧ p ≤ q ∧ q ≤ p + 100 := by
  obtain ⟨n, h1, hm⟩ := num_ev b hl p ([2, 3, 4, 1] : List Int) hp (by omega) (by simp) (by simp)
  have hn : 1 ≤ n ∧ n ≤ 4 := by simp at hm; omega
  obtain ⟨d, rfl⟩ := Int.eq_ofNat_of_zero_le (show 0 ≤ n by omega)
  obtain ⟨vs, xs, q, h, k1, k2, k3, k4⟩ := l12Jobs_l0 b hl d [] (p + 1) (by simp; omega) (by simp; omega) (by omega) (by omega)
  refine ⟨vs, xs, q, ?_, k1, k2, by omega, by omega⟩
  simp only [spec_l12Jobs.f]
  exact Ev.bind h1 h

/-! ### the strict order -/
theorem lf_mem {p : Nat → Bool} {x : Int} : ∀ d i, x ∈ lf p d i → ∃ q : Nat, x = (q : Int) ∧ i ≤ q ∧ q < i + d ∧ p q = true := by
  intro d
  induction d with
  | zero => intro i h; simp [lf] at h
  | succ d ih =>
    intro i h
    have h' : x ∈ (if p i = true then (i : Int) :: lf p d (i + 1) else lf p d (i + 1)) := h
    by_cases hp : p i = true
    · rw [if_pos hp] at h'
      rcases List.mem_cons.1 h' with rfl | h2
      · exact ⟨i, rfl, Nat.le_refl _, by omega, hp⟩
      · obtain ⟨q, h3, h4, h5, h6⟩ := ih (i + 1) h2
        exact ⟨q, h3, by omega, by omega, h6⟩
    · rw [if_neg hp] at h'
      obtain ⟨q, h3, h4, h5, h6⟩ := ih (i + 1) h'
      exact ⟨q, h3, by omega, by omega, h6⟩
theorem lf_pair (p : Nat → Bool) : ∀ d i, List.Pairwise (fun a b : Int => a < b) (lf p d i) := by
  intro d
  induction d with
  | zero => intro i; exact List.Pairwise.nil
  | succ d ih =>
    intro i
    show List.Pairwise _ (if p i = true then (i : Int) :: lf p d (i + 1) else lf p d (i + 1))
    by_cases hp : p i = true
    · rw [if_pos hp]
      refine List.Pairwise.cons (fun y hy => ?_) (ih (i + 1))
      obtain ⟨q, rfl, h1, _, _⟩ := lf_mem d (i + 1) hy
      omega
    · rw [if_neg hp]; exact ih (i + 1)
def strict (n : Nat) (js : List S30) : List Int := (lrows n js (List.replicate js.length false)).flatten
def LtS (js : List S30) (a b : Int) : Prop := (rd_T30 js a).f0 < (rd_T30 js b).f0 ∨ ((rd_T30 js a).f0 = (rd_T30 js b).f0 ∧ a < b)
theorem row_mem {js : List S30} {c : Int} {x : Int} (h : x ∈ lf (un js (List.replicate js.length false) c) js.length 0) : 0 ≤ x ∧ x < (js.length : Int) ∧ (rd_T30 js x).f0 = c := by
  obtain ⟨q, rfl, _, h2, h3⟩ := lf_mem _ _ h
  have hq : q < js.length := by omega
  rw [un_all hq] at h3
  have e : rd_T30 js (q : Int) = js.getD q z30 := by simp [rd_T30]
  rw [e]
  exact ⟨by omega, by omega, of_decide_eq_true h3⟩
theorem strict_mem {n : Nat} {js : List S30} {x : Int} (h : x ∈ strict n js) : 0 ≤ x ∧ x < (js.length : Int) := by
  unfold strict at h
  obtain ⟨l, hl, hx⟩ := List.mem_flatten.1 h
  obtain ⟨c, _, rfl⟩ := List.mem_map.1 hl
  have := row_mem hx
  exact ⟨this.1, this.2.1⟩
theorem strict_pair (n : Nat) (js : List S30) : List.Pairwise (LtS js) (strict n js) := by
  unfold strict
  rw [List.pairwise_flatten]
  refine ⟨fun l hl => ?_, ?_⟩
  · obtain ⟨c, _, rfl⟩ := List.mem_map.1 hl
    have hp := lf_pair (un js (List.replicate js.length false) (c : Int)) js.length 0
    have hm : ∀ x ∈ lf (un js (List.replicate js.length false) (c : Int)) js.length 0, (rd_T30 js x).f0 = (c : Int) := fun x hx => (row_mem hx).2.2
    refine List.Pairwise.imp_of_mem ?_ hp
    intro a b ha hb hab
    exact .inr ⟨by rw [hm a ha, hm b hb], hab⟩
  · unfold lrows
    rw [List.pairwise_map]
    refine List.Pairwise.imp ?_ (List.pairwise_lt_range (n := n))
    intro a b hab x hx y hy
    have h1 := (row_mem hx).2.2
    have h2 := (row_mem hy).2.2
    exact .inl (by omega)
theorem flat_set {c : Nat} {a : Int} : ∀ (xs : List (List Int)), c < xs.length → ((xs.set c (xs.getD c [] ++ [a])).flatten).length = xs.flatten.length + 1 := by
  induction c with
  | zero =>
    intro xs h
    match xs, h with
    | x :: xs, _ => simp; omega
  | succ c ih =>
    intro xs h
    match xs, h with
    | x :: xs, h =>
      have := ih xs (by simpa using h)
      simp only [List.set_cons_succ, List.getD_cons_succ, List.flatten_cons, List.length_append, this]
      omega
theorem to_len {n : Nat} {js : List S30} (hcl : ∀ i : Nat, i < js.length → 0 ≤ (js.getD i z30).f0 ∧ (js.getD i z30).f0 < (n : Int)) : ∀ i : Nat, i ≤ js.length → (lrowsTo n js i).flatten.length = i := by
  intro i
  induction i with
  | zero =>
    intro _
    have : (lrowsTo n js 0).flatten = [] := by
      rw [List.flatten_eq_nil_iff]
      intro l hl
      obtain ⟨c, _, rfl⟩ := List.mem_map.1 hl
      rfl
    rw [this]; rfl
  | succ i ih =>
    intro hi
    have h0 := hcl i (by omega)
    obtain ⟨c, hc⟩ := Int.eq_ofNat_of_zero_le h0.1
    rw [hc] at h0
    rw [lrowsTo_succ (by omega) hc]
    have hcn : c < n := by omega
    have hlen : c < (lrowsTo n js i).length := by simp [lrowsTo]; exact hcn
    have hg : (lrowsTo n js i).getD c [] = lf (un js (List.replicate js.length false) (c : Int)) i 0 := by
      simp [lrowsTo, List.getD_eq_getElem?_getD, hcn]
    have := flat_set (a := (i : Int)) (lrowsTo n js i) hlen
    rw [hg] at this
    rw [this, ih (by omega)]
theorem strict_len {n : Nat} {js : List S30} (hcl : ∀ i : Nat, i < js.length → 0 ≤ (js.getD i z30).f0 ∧ (js.getD i z30).f0 < (n : Int)) : (strict n js).length = js.length := to_len hcl js.length (Nat.le_refl _)
theorem jv_cls {ws : List Int} {js : List S30} (h : jv ws js = true) : ws.length ≤ 4 ∧ js.length ≤ 60 ∧ ∀ i : Nat, i < js.length → 0 ≤ (js.getD i z30).f0 ∧ (js.getD i z30).f0 < (ws.length : Int) := by
  simp only [jv, Bool.and_eq_true, decide_eq_true_eq] at h
  have hw := wok_elim h.1
  refine ⟨hw.2.1, by omega, fun i hi => ?_⟩
  have := List.all_eq_true.1 h.2.2 _ (List.getElem_mem hi)
  simp only [jok, Bool.and_eq_true, decide_eq_true_eq] at this
  have e : js.getD i z30 = js[i] := by simp [List.getD_eq_getElem?_getD, hi]
  rw [e]
  omega
theorem implStrict_ev (ws : List Int) (js : List S30) : Ev (fun k => impl_StrictOrder.f k ws js) (if jv ws js = true then strict ws.length js else []) := by
  simp only [impl_StrictOrder.f]
  refine evS (implJobs_eq ws js) ?_
  by_cases h : jv ws js = true
  · obtain ⟨h1, h2, h3⟩ := jv_cls h
    rw [if_pos h]
    refine evT h (Ev.bind (implByClass_ev ws h1 js h2 h3) (evS (a := strict ws.length js) ?_ (Ev.now _)))
    unfold slices_Concat_int_int.f
    rw [if_pos ⟨by rw [lrows_len]; omega, by
      have := strict_len h3
      show (strict ws.length js).length ≤ _
      omega⟩]
    rfl
  · rw [if_neg h]
    exact evF h (Ev.now _)
theorem take_flat (n : Nat) (js : List S30) (c : Nat) (h : c < n) : ((lrows n js (List.replicate js.length false)).take (c + 1)).flatten = ((lrows n js (List.replicate js.length false)).take c).flatten ++ lf (un js (List.replicate js.length false) (c : Int)) js.length 0 := by
  have hl : c < (lrows n js (List.replicate js.length false)).length := by rw [lrows_len]; exact h
  rw [List.take_succ_eq_append_getElem hl, List.flatten_append]
  simp [lrows]
theorem take_le (n : Nat) (js : List S30) (c : Nat) : ((lrows n js (List.replicate js.length false)).take c).flatten.length ≤ (strict n js).length := by
  have h := congrArg List.length (congrArg List.flatten (List.take_append_drop c (lrows n js (List.replicate js.length false))))
  rw [List.flatten_append, List.length_append] at h
  unfold strict
  omega
theorem specStrict_l1 (ws : List Int) (js : List S30) (hj : js.length ≤ 60) (pre : List Int) (hp : pre.length ≤ 1000) (c : Nat) {R : List Int}
    (hn : Ev (fun k => spec_StrictOrder.l0 k ws js (pre ++ lf (un js (List.replicate js.length false) (c : Int)) js.length 0) (wrap64 ((c : Int) + 1))) R) : ∀ d i : Nat, i + d = js.length →
    Ev (fun k => spec_StrictOrder.l1 k ws js (pre ++ lf (un js (List.replicate js.length false) (c : Int)) i 0) (c : Int) (i : Int)) R := by
  intro d
  induction d with
  | zero =>
    intro i hi
    obtain rfl : i = js.length := by omega
    refine Ev.step (fun k => by rw [spec_StrictOrder.l1]) ?_
    exact evF (by omega) hn
  | succ d ih =>
    intro i hi
    have hil : i < js.length := by omega
    have h1 := ih (i + 1) (by omega)
    have e : wrap64 ((i : Int) + 1) = ((i + 1 : Nat) : Int) := by rw [w64 (by omega) (by omega)]; omega
    have hr30 : rd_T30 js (i : Int) = js.getD i z30 := by simp [rd_T30]
    have hl := lf_len (un js (List.replicate js.length false) (c : Int)) i 0
    rw [lf_snoc, Nat.zero_add, un_all hil] at h1
    refine Ev.step (fun k => by rw [spec_StrictOrder.l1]) ?_
    rw [e, hr30]
    refine evT (by omega) (evT (by omega) ?_)
    by_cases hc : (js.getD i z30).f0 = (c : Int)
    · rw [if_pos (decide_eq_true hc), ← List.append_assoc] at h1
      exact evT hc (evT (by rw [List.length_append]; omega) h1)
    · rw [if_neg (by simpa using hc), List.append_nil] at h1
      exact evF hc h1
theorem specStrict_l0 (ws : List Int) (js : List S30) (h : jv ws js = true) : ∀ d c : Nat, c + d = ws.length →
    Ev (fun k => spec_StrictOrder.l0 k ws js ((lrows ws.length js (List.replicate js.length false)).take c).flatten (c : Int)) (strict ws.length js) := by
  obtain ⟨h1, h2, h3⟩ := jv_cls h
  intro d
  induction d with
  | zero =>
    intro c hc
    obtain rfl : c = ws.length := by omega
    refine Ev.step (fun k => by rw [spec_StrictOrder.l0]) ?_
    refine evF (by omega) (Ev.step (fun k => by rw [spec_StrictOrder.j1]) (evF (by decide) (evE (Ev.now _) ?_)))
    unfold strict
    rw [List.take_of_length_le (by rw [lrows_len]; exact Nat.le_refl _)]
  | succ d ih =>
    intro c hc
    have hn := ih (c + 1) (by omega)
    have e : wrap64 ((c : Int) + 1) = ((c + 1 : Nat) : Int) := by rw [w64 (by omega) (by omega)]; omega
    have hjv : Ev (fun k => spec_JobsValid.f k ws js) true := h ▸ specJobs_ev ws (by omega) js (by omega)
    have hle := take_le ws.length js c
    rw [strict_len h3] at hle
    have hple : ((lrows ws.length js (List.replicate js.length false)).take c).flatten.length ≤ 1000 := by omega
    clear hle
    rw [take_flat ws.length js c (by omega)] at hn
    refine Ev.step (fun k => by rw [spec_StrictOrder.l0]) ?_
    refine evT (by omega) (Ev.bind hjv (Ev.step (fun k => by rw [spec_StrictOrder.j1]) (evT rfl ?_)))
    have := specStrict_l1 ws js h2 _ hple c (R := strict ws.length js) (by rw [e]; exact hn) js.length 0 (by omega)
    rw [show lf (un js (List.replicate js.length false) (c : Int)) 0 0 = [] from rfl, List.append_nil] at this
    exact this
theorem specStrict_ev (ws : List Int) (hw : ws.length ≤ 1000) (js : List S30) (hj : js.length ≤ 1000) : Ev (fun k => spec_StrictOrder.f k ws js) (if jv ws js = true then strict ws.length js else []) := by
  simp only [spec_StrictOrder.f]
  by_cases h : jv ws js = true
  · rw [if_pos h]
    exact specStrict_l0 ws js h ws.length 0 (by omega)
  · rw [if_neg h]
    rw [Bool.not_eq_true] at h
    have hjv : Ev (fun k => spec_JobsValid.f k ws js) false := h ▸ specJobs_ev ws (by omega) js (by omega)
    refine Ev.step (fun k => by rw [spec_StrictOrder.l0]) ?_
    by_cases h0 : (0 : Int) < (ws.length : Int)
    · exact evT h0 (Ev.bind hjv (Ev.step (fun k => by rw [spec_StrictOrder.j1]) (evF (by decide) (Ev.now _))))
    · exact evF h0 (Ev.step (fun k => by rw [spec_StrictOrder.j1]) (evF (by decide) (Ev.now _)))
theorem drawStrict_ev (l : List Int) (hb : ∀ x ∈ l, (Lit.int .u8 x).wf = true) : ∃ ws js, Ev (fun k => spec_DrawStrictOrder.f k l) (ws, js) ∧ ws.length ≤ 5 ∧ js.length ≤ 31 := by
  obtain ⟨b, ho, hl⟩ := open_ev l hb
  obtain ⟨vs, xs, q, h1, k1, k2, k3, k4⟩ := l12Jobs_ev b hl 0 (by omega) (by omega)
  refine ⟨vs, xs, ?_, k1, k2⟩
  simp only [spec_DrawStrictOrder.f]
  exact evS ho (Ev.bind h1 (Ev.now _))
theorem strictLaw_l0 (js : List S30) (r : List Int) (hm : ∀ x ∈ r, 0 ≤ x ∧ x < (js.length : Int)) (hp : List.Pairwise (LtS js) r) (hl : r.length ≤ 1000) (he : r.length = 0 ∨ r.length = js.length) : ∀ d i : Nat, i + 1 + d = r.length →
    Ev (fun k => laws_FnStrict.l0 k js r ((i + 1 : Nat) : Int)) true := by
  intro d
  induction d with
  | zero =>
    intro i hi
    refine Ev.step (fun k => by rw [laws_FnStrict.l0]) ?_
    refine evF (by omega) (evF (by omega) (evE (Ev.now _) ?_))
    rcases he with he | he
    · omega
    · rw [he]; simp
  | succ d ih =>
    intro i hi
    have h1 := ih (i + 1) (by omega)
    have e : wrap64 (((i + 1 : Nat) : Int) + 1) = ((i + 1 + 1 : Nat) : Int) := by rw [w64 (by omega) (by omega)]; omega
    have e2 : wrap64 (((i + 1 : Nat) : Int) - 1) = (i : Int) := by rw [w64 (by omega) (by omega)]; omega
    have hi0 : i < r.length := by omega
    have hi1 : i + 1 < r.length := by omega
    have ha := hm _ (List.getElem_mem hi0)
    have hb := hm _ (List.getElem_mem hi1)
    have hlt := List.pairwise_iff_getElem.1 hp i (i + 1) hi0 hi1 (by omega)
    refine Ev.step (fun k => by rw [laws_FnStrict.l0]) ?_
    rw [e2, rd_at r i hi0, rd_at r (i + 1) hi1]
    generalize r[i] = a at ha hlt
    generalize r[i + 1] = b at hb hlt
    refine evT (by omega) (evT (by omega) (evT (by omega) (evT ha.1 (evT ha.2 (evT (by omega) (evT hb.1 (evT hb.2 ?_)))))))
    have hj : ∀ x : Bool, x = false → Ev (fun k => laws_FnStrict.j1 k js r ((i + 1 : Nat) : Int) x) true := fun x hx => by
      subst hx
      refine Ev.step (fun k => by rw [laws_FnStrict.j1]) ?_
      rw [e]
      exact evF (by decide) h1
    rcases hlt with hlt | ⟨heq, hlt⟩
    · exact evF (by omega) (evF (by omega) (hj false rfl))
    · exact evF (by omega) (evT heq (hj _ (decide_eq_false (by omega))))
theorem q_FnStrict : laws_FnStrict.Pure := by
  intro l hl1 hl2 hb
  refine Ev.rounds ?_
  simp only [laws_FnStrict.f]
  by_cases h0 : (l.length : Int) > 1048576
  · exact evT h0 (Ev.now _)
  obtain ⟨ws, js, hd, hw, hjl⟩ := drawStrict_ev l hb
  have hi := implStrict_ev ws js
  have hs := specStrict_ev ws (by omega) js (by omega)
  have hr : ∃ r : List Int, r = (if jv ws js = true then strict ws.length js else []) ∧ r.length ≤ 60 ∧ (∀ x ∈ r, 0 ≤ x ∧ x < (js.length : Int)) ∧ List.Pairwise (LtS js) r ∧ (r.length = 0 ∨ r.length = js.length) := by
    refine ⟨_, rfl, ?_⟩
    by_cases h : jv ws js = true
    · obtain ⟨_, h2, h3⟩ := jv_cls h
      rw [if_pos h]
      exact ⟨by rw [strict_len h3]; exact h2, fun x hx => strict_mem hx, strict_pair _ _, .inr (strict_len h3)⟩
    · rw [if_neg h]
      exact ⟨by simp, by simp, List.Pairwise.nil, .inl rfl⟩
  obtain ⟨r, hre, hrl, hm, hp, he⟩ := hr
  rw [← hre] at hi hs
  have hq : Ev (fun k => laws_wnInts.f k r r) true := evE (wnInts_ev r r (by omega)) (by simp)
  refine evF h0 (Ev.bind hd (Ev.bind hi (Ev.bind hs (Ev.bind hq (evT rfl ?_)))))
  by_cases hz : r.length = 0
  · refine Ev.step (fun k => by rw [laws_FnStrict.l0]) ?_
    exact evF (by omega) (evT (by omega) (Ev.now _))
  · exact strictLaw_l0 js r hm hp (by omega) he (r.length - 1) 0 (by omega)

end Go.Proofs.Ytnagdcigoaeicaa.Q
