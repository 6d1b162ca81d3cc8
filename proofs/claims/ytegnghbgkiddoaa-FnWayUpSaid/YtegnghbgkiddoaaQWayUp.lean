/- Plain lemmas on what the printed functions compute (seat Ytegnghbgkiddoaa, module QWayUp). Conditions: each lemma's own. -/
import Derived.Test.YtegnghbgkiddoaaQw
import Derived.Test.YtegnghbgkiddoaaQt
import Derived.Test.YtegnghbgkiddoaaQe
import Derived.Test.YtegnghbgkiddoaaPA0
import Derived.Test.YtegnghbgkiddoaaPA10
import Derived.Test.YtegnghbgkiddoaaPA14
import Derived.Test.YtegnghbgkiddoaaPA34
import Derived.Test.YtegnghbgkiddoaaPA43
set_option linter.unusedVariables false
set_option linter.unusedSimpArgs false
namespace Go.Proofs.Ytegnghbgkiddoaa.Q
open Go Go.RowKit Go.Proofs.Ytegnghbgkiddoaa.PA Go.Proofs.YtegnghbgkiddoaaW.PrintWords Go.Proofs.YtegnghbgkiddoaaW.PrintLast

theorem open_ev (l : List Int) (hb : ∀ x ∈ l, (Lit.int .u8 x).wf = true) : ∃ b, spec_l21Open.f l = some (b, 0) ∧ Bs b := by
  unfold spec_l21Open.f
  by_cases h : (l.length : Int) > 2000
  · refine ⟨l.take 2000, by rw [if_pos h, if_pos (by omega)], by simp; omega, fun x hx => lit_u8 (hb x (List.mem_of_mem_take hx))⟩
  · exact ⟨l, by rw [if_neg h], by omega, fun x hx => lit_u8 (hb x hx)⟩
theorem pick_ev (l : List Int) (hl : Bs l) (p n : Int) (hp : 0 ≤ p) (hp2 : p ≤ 500000) (hn : n ≤ 1000000000) :
    ∃ v, Ev (fun k => spec_l21Rd_pick.f k l p n) (v, p + 1) ∧ 0 ≤ v ∧ (1 ≤ n → v < n) := by
  obtain ⟨hl1, hb⟩ := hl
  have e1 : wrap64 (p + 1) = p + 1 := w64 (by omega) (by omega)
  simp only [spec_l21Rd_pick.f, e1]
  by_cases h1 : n < 1
  · refine ⟨0, evT h1 (Ev.step (fun k => by rw [spec_l21Rd_pick.j0]) (evT rfl (Ev.now _))), by omega, by omega⟩
  · by_cases h2 : l.length = 0
    · have e2 : ((l.length : Int) == 0) = true := by simpa using h2
      refine ⟨0, evF h1 (Ev.step (fun k => by rw [spec_l21Rd_pick.j0]) (evT e2 (Ev.now _))), by omega, by omega⟩
    · have e2 : ¬ (((l.length : Int) == 0) = true) := by simpa using h2
      have e3 : wrap64 (p + 1 - 1) = p := by rw [w64 (by omega) (by omega)]; omega
      by_cases h3 : p < (l.length : Int)
      · have hr := hb _ (rd_mem l p hp h3)
        have hv := tmod_bounds (wrap64 (rd l p)) n (by rw [w64 (by omega) (by omega)]; omega) (by omega)
        refine ⟨Int.tmod (wrap64 (rd l p)) n, evF h1 (Ev.step (fun k => by rw [spec_l21Rd_pick.j0]) ?_), hv.1, fun _ => hv.2⟩
        rw [e3]
        exact evF e2 (evT h3 (evT hp (evF (by omega) (Ev.now _))))
      · have e4 : wrap64 (p * 7) = p * 7 := w64 (by omega) (by omega)
        have e5 : wrap64 (p * 7 + 3) = p * 7 + 3 := w64 (by omega) (by omega)
        have b1 := tmod_bounds p (l.length : Int) hp (by omega)
        have b2 := tmod_bounds (p * 7 + 3) (l.length : Int) (by omega) (by omega)
        have r1 := hb _ (rd_mem l _ b1.1 b1.2)
        have r2 := hb _ (rd_mem l _ b2.1 b2.2)
        have q1 := tdiv_bounds p hp (l.length : Int) (by omega)
        have hx := mix_ok _ _ p _ r1 r2 hp (by omega) q1.1 (by omega)
        generalize hX : wrap64 ((wrap64 ((wrap64 ((wrap64 ((wrap64 (rd l (Int.tmod p (l.length : Int)))) * 131)) + (wrap64 ((wrap64 (rd l (Int.tmod (p * 7 + 3) (l.length : Int)))) * 1117)))) + (wrap64 (p * 29)))) + (wrap64 ((wrap64 (Int.tdiv p (l.length : Int))) * 53))) = X at hx
        have q2 := tdiv_bounds X hx.1 64 (by omega)
        have q3 : wrap64 (X.tdiv 64) = X.tdiv 64 := w64 (by omega) (by omega)
        have hz := bits_xor_i64_nonneg X (wrap64 (X.tdiv 64)) hx.1 (by omega) (by omega) (by omega)
        have hv := tmod_bounds _ n hz (by omega)
        refine ⟨Int.tmod (Go.bits .xor .i64 X (wrap64 (X.tdiv 64))) n, evF h1 (Ev.step (fun k => by rw [spec_l21Rd_pick.j0]) ?_), hv.1, fun _ => hv.2⟩
        simp only [e3, e4, e5, hX]
        exact evF e2 (evF h3 (evF (by omega) (evT b1.1 (evT b1.2 (evT b2.1 (evT b2.2 (evF (by omega) (Ev.now _))))))))
theorem num_ev (l : List Int) (hl : Bs l) (p : Int) (xs : List Int) (hp : 0 ≤ p) (hp2 : p ≤ 500000) (hn : 1 ≤ xs.length) (hn2 : xs.length ≤ 1000) :
    ∃ v, Ev (fun k => spec_l21Rd_num.f k l p xs) (v, p + 1) ∧ v ∈ xs := by
  obtain ⟨v, h, h0, h1⟩ := pick_ev l hl p (xs.length : Int) hp hp2 (by omega)
  refine ⟨rd xs v, ?_, rd_mem xs v h0 (h1 (by omega))⟩
  simp only [spec_l21Rd_num.f]
  exact Ev.bind h (evT h0 (evT (h1 (by omega)) (Ev.now _)))

/-! ### lists that are compared, copied, marked -/
theorem wnInts_l0 (a b : List Int) (hl : a.length = b.length) (hb : a.length ≤ 1000000000000) : ∀ d i : Nat, i + d = a.length →
    Ev (fun k => laws_wnInts.l0 k b a (a.length : Int) (i : Int)) (decide (a.drop i = b.drop i)) := by
  intro d
  induction d with
  | zero =>
    intro i hi
    refine Ev.step (fun k => by rw [laws_wnInts.l0]) ?_
    refine evF (by omega) (evE (Ev.now _) ?_)
    rw [List.drop_of_length_le (by omega), List.drop_of_length_le (by omega)]
    simp
  | succ d ih =>
    intro i hi
    have ha : a.drop i = a[i]'(by omega) :: a.drop (i + 1) := List.drop_eq_getElem_cons (by omega)
    have hb' : b.drop i = b[i]'(by omega) :: b.drop (i + 1) := List.drop_eq_getElem_cons (by omega)
    have e : wrap64 ((i : Int) + 1) = ((i + 1 : Nat) : Int) := by rw [w64 (by omega) (by omega)]; omega
    refine Ev.step (fun k => by rw [laws_wnInts.l0]) ?_
    refine evT (by omega) (evT (by omega) (evT (by omega) (evT (by omega) ?_)))
    rw [rd_at b i (by omega), rd_at a i (by omega), e]
    by_cases h : b[i]'(by omega) = a[i]'(by omega)
    · refine evT h (evE (ih (i + 1) (by omega)) ?_)
      rw [ha, hb']
      exact decide_eq_decide.2 ⟨fun e => by rw [h, e], fun e => (List.cons.inj e).2⟩
    · refine evF h (evE (Ev.now _) ?_)
      rw [ha, hb']
      exact (decide_eq_false (fun e => h (List.cons.inj e).1.symm)).symm
theorem wnInts_ev (a b : List Int) (hb : a.length ≤ 1000000000000) : Ev (fun k => laws_wnInts.f k a b) (decide (a = b)) := by
  simp only [laws_wnInts.f]
  by_cases h : a.length = b.length
  · exact evT (by omega) (evE (wnInts_l0 a b h hb a.length 0 (by omega)) (by simp))
  · exact evF (by omega) (evE (Ev.now _) (by simp; intro e; exact h (by rw [e])))

/-! ### draws of cables -/
theorem l7Cables_l0 (b : List Int) (hl : Bs b) (n : Int) (hn : 1 ≤ n) (hn2 : n ≤ 8) : ∀ (d : Nat) (acc : List S44) (p : Int), acc.length + d ≤ 20 → 0 ≤ p → p + 3 * d ≤ 400000 →
    ∃ xs q, Ev (fun k => spec_l7Cables.l0 k n acc (d : Int) b p) (n, xs, q) ∧ xs.length ≤ 20 ∧ p ≤ q ∧ q ≤ p + 3 * d := by
  intro d
  induction d with
  | zero =>
    intro acc p ha hp hp2
    refine ⟨acc, p, Ev.step (fun k => by rw [spec_l7Cables.l0]) ?_, by omega, by omega, by omega⟩
    refine evF (by omega) (Ev.step (fun k => by rw [spec_l7Cables.j1]) ?_)
    exact evF (by simp) (Ev.now _)
  | succ d ih =>
    intro acc p ha hp hp2
    by_cases hn1 : n > 1
    · obtain ⟨a, h1, a0, a1⟩ := pick_ev b hl p n hp (by omega) (by omega)
      obtain ⟨u, h2, u0, u1⟩ := pick_ev b hl (p + 1) (n - 1) (by omega) (by omega) (by omega)
      obtain ⟨c, h3, _⟩ := num_ev b hl (p + 1 + 1) ([1, 1, 2, 5, 10, 99] : List Int) (by omega) (by omega) (by simp) (by simp)
      obtain ⟨xs, q, h, k1, k2, k3⟩ := ih (acc ++ [(⟨a, Int.tmod (wrap64 ((wrap64 (a + 1)) + u)) n, c⟩ : S44)]) (p + 1 + 1 + 1) (by simp; omega) (by omega) (by omega)
      refine ⟨xs, q, Ev.step (fun k => by rw [spec_l7Cables.l0]) ?_, k1, by omega, by omega⟩
      rw [decide_eq_true hn1]
      refine evT (by omega) (Ev.step (fun k => by rw [spec_l7Cables.j1]) ?_)
      rw [w64 (x := n - 1) (by omega) (by omega)]
      refine evT rfl (Ev.bind h1 (Ev.bind h2 (evF (by omega) (Ev.bind h3 (evT (by omega) ?_)))))
      rw [show wrap64 (((d + 1 : Nat) : Int) - 1) = (d : Int) by rw [w64 (by omega) (by omega)]; omega]
      exact h
    · refine ⟨acc, p, Ev.step (fun k => by rw [spec_l7Cables.l0]) ?_, by omega, by omega, by omega⟩
      rw [decide_eq_false hn1]
      refine evT (by omega) (Ev.step (fun k => by rw [spec_l7Cables.j1]) ?_)
      exact evF (by simp) (Ev.now _)
theorem l7Cables_ev (b : List Int) (hl : Bs b) (p : Int) (hp : 0 ≤ p) (hp2 : p ≤ 300000) :
    ∃ n xs q, Ev (fun k => spec_l7Cables.f k b p) (n, xs, q) ∧ 1 ≤ n ∧ n ≤ 8 ∧ xs.length ≤ 20 ∧ p ≤ q ∧ q ≤ p + 100 := by
  obtain ⟨n, h1, hm⟩ := num_ev b hl p ([4, 6, 3, 8, 2, 1, 5] : List Int) hp (by omega) (by simp) (by simp)
  obtain ⟨v, h2, hm2⟩ := num_ev b hl (p + 1) ([5, 8, 12, 3, 0, 20] : List Int) (by omega) (by omega) (by simp) (by simp)
  have hnb : 1 ≤ n ∧ n ≤ 8 := by simp at hm; omega
  have hvb : 0 ≤ v ∧ v ≤ 20 := by simp at hm2; omega
  obtain ⟨d, rfl⟩ := Int.eq_ofNat_of_zero_le hvb.1
  obtain ⟨xs, q, h, k1, k2, k3⟩ := l7Cables_l0 b hl n hnb.1 hnb.2 d [] (p + 1 + 1) (by simp; omega) (by omega) (by omega)
  refine ⟨n, xs, q, ?_, hnb.1, hnb.2, k1, by omega, by omega⟩
  simp only [spec_l7Cables.f]
  exact Ev.bind h1 (Ev.bind h2 h)
theorem l7Bent_ev (b : List Int) (hl : Bs b) (p : Int) (hp : 0 ≤ p) (hp2 : p ≤ 200000) :
    ∃ n xs q, Ev (fun k => spec_l7Bent.f k b p) (n, xs, q) ∧ 0 ≤ n ∧ n ≤ 9 ∧ xs.length ≤ 21 ∧ p ≤ q ∧ q ≤ p + 110 := by
  obtain ⟨n, xs, q, h1, k1, k2, k3, k4, k5⟩ := l7Cables_ev b hl p hp (by omega)
  obtain ⟨v, h2, v0, v1⟩ := pick_ev b hl q 60 (by omega) (by omega) (by omega)
  by_cases c0 : v = 0
  · obtain ⟨u, h3, hm⟩ := num_ev b hl (q + 1) ([0, 9] : List Int) (by omega) (by omega) (by simp) (by simp)
    have hub : 0 ≤ u ∧ u ≤ 9 := by simp at hm; omega
    refine ⟨u, xs, q + 1 + 1, ?_, hub.1, hub.2, by omega, by omega, by omega⟩
    simp only [spec_l7Bent.f]
    refine Ev.bind h1 (Ev.bind h2 ?_)
    exact evT c0 (Ev.bind h3 (Ev.now _))
  · by_cases c1 : v = 1
    · refine ⟨n, xs ++ [(⟨0, 0, 1⟩ : S44)], q + 1, ?_, by omega, by omega, by simp; omega, by omega, by omega⟩
      simp only [spec_l7Bent.f]
      refine Ev.bind h1 (Ev.bind h2 ?_)
      exact evF c0 (evT c1 (evT (by simp only []; omega) (Ev.now _)))
    · by_cases c2 : v = 2
      · refine ⟨n, xs ++ [(⟨0, n, 1⟩ : S44)], q + 1, ?_, by omega, by omega, by simp; omega, by omega, by omega⟩
        simp only [spec_l7Bent.f]
        refine Ev.bind h1 (Ev.bind h2 ?_)
        exact evF c0 (evF c1 (evT c2 (evT (by simp only []; omega) (Ev.now _))))
      · by_cases c3 : v = 3
        · obtain ⟨u, h3, hm⟩ := num_ev b hl (q + 1) ([0, 100] : List Int) (by omega) (by omega) (by simp) (by simp)
          refine ⟨n, xs ++ [(⟨0, 1, u⟩ : S44)], q + 1 + 1, ?_, by omega, by omega, by simp; omega, by omega, by omega⟩
          simp only [spec_l7Bent.f]
          refine Ev.bind h1 (Ev.bind h2 ?_)
          exact evF c0 (evF c1 (evF c2 (evT c3 (Ev.bind h3 (evT (by simp only []; omega) (Ev.now _))))))
        · refine ⟨n, xs, q + 1, ?_, by omega, by omega, by omega, by omega, by omega⟩
          simp only [spec_l7Bent.f]
          refine Ev.bind h1 (Ev.bind h2 ?_)
          exact evF c0 (evF c1 (evF c2 (evF c3 (Ev.now _))))

/-! ### whole numbers out of a list of places -/
theorem ints_at (T : List Nat) (i : Nat) (h : i < T.length) : rd (ints T) (i : Int) = (T[i] : Int) := by
  simp [rd, ints, List.getD_eq_getElem?_getD, h]
theorem ints_len (T : List Nat) : (ints T).length = T.length := by simp [ints]
theorem treeL_len {m : Nat} {L : List Cb} {ds : List Int} : (treeL m L ds).length ≤ L.length := by
  unfold treeL
  exact Nat.le_trans (List.length_filter_le _ _) (by simp)

theorem drawRoot_ev (l : List Int) (hb : ∀ x ∈ l, (Lit.int .u8 x).wf = true) : ∃ n xs b, Ev (fun k => spec_DrawRootOf.f k l) (n, xs, b) ∧ xs.length ≤ 21 := by
  obtain ⟨b, ho, hl⟩ := open_ev l hb
  obtain ⟨n, xs, q, h1, k1, k2, k3, k4, k5⟩ := l7Bent_ev b hl 0 (by omega) (by omega)
  obtain ⟨v, h2, v0, v1⟩ := pick_ev b hl q (wrap64 (n + 2)) (by omega) (by omega) (by rw [w64 (by omega) (by omega)]; omega)
  refine ⟨n, xs, wrap64 (v - 1), ?_, k3⟩
  simp only [spec_DrawRootOf.f]
  exact evS ho (Ev.bind h1 (Ev.bind h2 (Ev.now _)))

/-! ### the way up, cable by cable -/
theorem Way.spec {n : Nat} {L : List Cb} (hL : Okc n L) {ds : List Int} (hc : Cs n L ds) {b : Nat} {w : List Nat} (h : Way L ds b w) : b < n →
    1 ≤ w.length ∧ w.getD 0 0 = b ∧ (∀ i, i < w.length → w.getD i 0 < n) ∧ (∀ i, i + 1 < w.length → ∃ e, Up L ds (w.getD i 0) e (w.getD (i + 1) 0)) ∧ Rt L b (w.getD (w.length - 1) 0) := by
  induction h with
  | @root b hno =>
    intro hb
    refine ⟨Nat.le_refl _, rfl, fun i hi => ?_, fun i hi => ?_, ?_⟩
    · have : i = 0 := by simpa using hi
      subst this; exact hb
    · simp at hi
    · have hz : ds.getD b 0 = 0 := by
        rcases Decidable.em (ds.getD b 0 = 0) with h | h
        · exact h
        · obtain ⟨i, o, hu⟩ := Cand.ex hL hc hb h
          exact (hno _ _ hu).elim
      obtain ⟨r, hr⟩ := Rt.ex L b
      have := ((hc.2 b hb).zero_iff hL hr).1 hz
      subst this
      exact hr
  | @step b i o l hu hw ih =>
    intro hb
    have hon := (hu.1.ends hL).2.1
    obtain ⟨h1, h2, h3, h4, h5⟩ := ih hon
    refine ⟨by simp, rfl, fun j hj => ?_, fun j hj => ?_, ?_⟩
    · match j with
      | 0 => exact hb
      | j + 1 => exact h3 j (by simpa using hj)
    · match j with
      | 0 => exact ⟨i, by show Up L ds b i (l.getD 0 0); rw [h2]; exact hu⟩
      | j + 1 => exact h4 j (by simpa using hj)
    · obtain ⟨x, hx, he, _⟩ := hu.1
      obtain ⟨p, hp⟩ : ∃ p, l.length = p + 1 := ⟨l.length - 1, by omega⟩
      rw [hp, Nat.add_sub_cancel] at h5
      show Rt L b ((b :: l).getD ((b :: l).length - 1) 0)
      rw [List.length_cons, hp, Nat.add_sub_cancel]
      exact h5.to (Jn.step (.refl _) (List.mem_of_getElem? hx) he)
theorem ints_rd (w : List Nat) (i : Nat) (h : i < w.length) : rd (ints w) (i : Int) = (w.getD i 0 : Int) := by
  rw [ints_at w i h]; simp [List.getD_eq_getElem?_getD, h]
theorem ds_rd (ds : List Int) (i : Nat) : rd ds (i : Int) = ds.getD i 0 := by simp [rd]
/-- is this cable the one between V and O, up from V? -/
def Gc (l : List S44) (ds : List Int) (V O e : Nat) : Prop := ∃ a b : Nat, ∃ c : Int, rd_T44 l (e : Int) = ⟨(a : Int), (b : Int), c⟩ ∧ a + b = V + O ∧ (a = O ∨ b = O) ∧ ds.getD O 0 + c = ds.getD V 0
theorem Gc.of {m : Nat} {l : List S44} (hV : Vd m l) {ds : List Int} {V O e : Nat} (h : Up (l.map cbOf) ds V e O) : Gc l ds V O e := by
  obtain ⟨x, hx, he, hd⟩ := h.1
  have hel : e < l.length := by simpa using h.1.lt
  obtain ⟨a, b, c, hr, _, _, _, _, _, hat, _⟩ := hV.map e hel
  rw [hat] at hx
  obtain rfl := Option.some.inj hx
  refine ⟨a, b, c, hr, ?_, ?_, hd⟩
  · rcases he with ⟨h1, h2⟩ | ⟨h1, h2⟩ <;> (simp only at h1 h2; omega)
  · rcases he with ⟨h1, h2⟩ | ⟨h1, h2⟩
    · exact .inl h1
    · exact .inr h2
theorem fnWay_l1 {m : Nat} {l : List S44} (hV : Vd m l) {ds : List Int} (hc : Cs m (l.map cbOf) ds) {w T : List Nat} (hT : ∀ i ∈ T, i < l.length) (hTl : T.length ≤ 20) (hwl : w.length ≤ 1000) (hw : ∀ i, i < w.length → w.getD i 0 < m) (b : Int) (i : Nat) (hi : i + 1 < w.length)
    (hR : Ev (fun k => laws_FnWayUp.l0 k (m : Int) l b (ints w) ds (ints T) ((i + 2 : Nat) : Int)) true) : ∀ (d j : Nat) (fd : Bool), j + d = T.length → (fd = true ∨ ∃ j', j ≤ j' ∧ ∃ hj : j' < T.length, Gc l ds (w.getD i 0) (w.getD (i + 1) 0) T[j']) →
    Ev (fun k => laws_FnWayUp.l1 k (m : Int) l b (ints w) ds (ints T) ((i + 1 : Nat) : Int) fd (ints T) ((ints T).length : Int) (j : Int)) true := by
  have hm8 := hV.m8
  have hVm := hw i (by omega)
  have hOm := hw (i + 1) hi
  have hsV := (hc.2 _ hVm).small hV.okc hVm
  have hsO := (hc.2 _ hOm).small hV.okc hOm
  have hnV := (hc.2 _ hVm).nonneg hV.okc
  have hnO := (hc.2 _ hOm).nonneg hV.okc
  have hdl := hc.1
  have e1 : wrap64 (((i + 1 : Nat) : Int) - 1) = (i : Int) := by rw [w64 (by omega) (by omega)]; omega
  have e2 : wrap64 (((i + 1 : Nat) : Int) + 1) = ((i + 2 : Nat) : Int) := by rw [w64 (by omega) (by omega)]; omega
  have hrV := ints_rd w i (Nat.lt_of_succ_lt hi)
  have hrO := ints_rd w (i + 1) hi
  intro d
  induction d with
  | zero =>
    intro j fd hj hf
    have hfd : fd = true := by
      rcases hf with h | ⟨j', h1, h2, _⟩
      · exact h
      · omega
    subst hfd
    refine Ev.step (fun k => by rw [laws_FnWayUp.l1]) ?_
    refine evF (by rw [ints_len]; omega) (evT rfl ?_)
    rw [e2]
    exact hR
  | succ d ih =>
    intro j fd hj hf
    have hjl : j < T.length := by omega
    have hel := hT _ (List.getElem_mem hjl)
    have e : wrap64 ((j : Int) + 1) = ((j + 1 : Nat) : Int) := by rw [w64 (by omega) (by omega)]; omega
    obtain ⟨a, c, q, hr, ham, hcm, hne, hq1, hq2, _, _⟩ := hV.map _ hel
    refine Ev.step (fun k => by rw [laws_FnWayUp.l1]) ?_
    have c1 : (j : Int) < ((ints T).length : Int) := by rw [ints_len]; omega
    refine evT c1 (evT (Int.natCast_nonneg j) (evT c1 ?_))
    rw [ints_at T j hjl, hr, e, e1, hrV, hrO, ds_rd, ds_rd]
    dsimp only
    clear e e1 e2 hrV hrO c1
    have hG : (fd = true ∨ ∃ j', j + 1 ≤ j' ∧ ∃ hj : j' < T.length, Gc l ds (w.getD i 0) (w.getD (i + 1) 0) T[j']) ∨ (a + c = w.getD i 0 + w.getD (i + 1) 0 ∧ (a = w.getD (i + 1) 0 ∨ c = w.getD (i + 1) 0) ∧ ds.getD (w.getD (i + 1) 0) 0 + q = ds.getD (w.getD i 0) 0) := by
      rcases hf with h | ⟨j', h1, h2, h3⟩
      · exact .inl (.inl h)
      · rcases Nat.lt_or_ge j j' with h | h
        · exact .inl (.inr ⟨j', h, h2, h3⟩)
        · obtain rfl : j' = j := Nat.le_antisymm h h1
          obtain ⟨a', c', q', hr', k1, k2, k3⟩ := h3
          rw [hr] at hr'
          injection hr' with g1 g2 g3
          have g1' : a = a' := Int.ofNat.inj g1
          have g2' : c = c' := Int.ofNat.inj g2
          subst g1' g2' g3
          exact .inr ⟨k1, k2, k3⟩
    clear hf
    generalize w.getD i 0 = V at *
    generalize w.getD (i + 1) 0 = O at *
    refine evT (by omega) (evT (by omega) ?_)
    cases fd with
    | true => exact evT rfl (ih (j + 1) true (by omega) (.inl rfl))
    | false =>
      refine evF (by simp) (evT (by omega) (evT (by rw [ints_len]; omega) (evT (by omega) (evT (by rw [ints_len]; omega) ?_))))
      rw [w64 (x := (a : Int) + (c : Int)) (by omega) (by omega), w64 (x := (V : Int) + (O : Int)) (by omega) (by omega), w64 (x := ds.getD O 0 + q) (by omega) (by omega)]
      by_cases s1 : (a : Int) + (c : Int) = (V : Int) + (O : Int)
      · have fin : (a = O ∨ c = O) → Ev (fun k => laws_FnWayUp.l1 k (m : Int) l b (ints w) ds (ints T) ((i + 1 : Nat) : Int) (ds.getD O 0 + q == ds.getD V 0) (ints T) ((ints T).length : Int) ((j + 1 : Nat) : Int)) true := fun ho => by
          refine ih (j + 1) _ (by omega) ?_
          by_cases s3 : ds.getD O 0 + q = ds.getD V 0
          · exact .inl (beq_iff_eq.2 s3)
          · rcases hG with (h | h) | ⟨_, _, h⟩
            · cases h
            · exact .inr h
            · exact absurd h s3
        refine evT s1 ?_
        by_cases s2 : (a : Int) = (O : Int)
        · exact evT s2 (evT (by omega) (evT (by omega) (evT (by omega) (evT (by omega) (fin (.inl (by omega)))))))
        · refine evF s2 ?_
          by_cases s3 : (c : Int) = (O : Int)
          · exact evT s3 (evT (by omega) (evT (by omega) (evT (by omega) (evT (by omega) (fin (.inr (by omega)))))))
          · refine evF s3 (ih (j + 1) false (by omega) ?_)
            rcases hG with h | ⟨_, h, _⟩
            · exact h
            · omega
      · refine evF s1 (ih (j + 1) false (by omega) ?_)
        rcases hG with h | ⟨h, _, _⟩
        · exact h
        · omega
theorem fnWay_l0 {m : Nat} {l : List S44} (hV : Vd m l) {ds : List Int} (hc : Cs m (l.map cbOf) ds) {w T : List Nat} (hTt : T = treeL m (l.map cbOf) ds) {b : Nat} (hb : b < m) (hw : Way (l.map cbOf) ds b w) (hwl : w.length ≤ 1000) : ∀ d i : Nat, i + 1 + d = w.length →
    Ev (fun k => laws_FnWayUp.l0 k (m : Int) l (b : Int) (ints w) ds (ints T) ((i + 1 : Nat) : Int)) true := by
  have hT : ∀ i ∈ T, i < l.length := fun i hi => by rw [hTt] at hi; simpa using tree_lt hi
  have hTl : T.length ≤ 20 := by
    have h1 := treeL_len (m := m) (L := l.map cbOf) (ds := ds)
    rw [← hTt, List.length_map] at h1
    have := hV.len
    omega
  obtain ⟨h1, h2, h3, h4, h5⟩ := hw.spec hV.okc hc hb
  intro d
  induction d with
  | zero =>
    intro i hi
    have e : wrap64 (((ints w).length : Int) - 1) = ((w.length - 1 : Nat) : Int) := by rw [ints_len, w64 (by omega) (by omega)]; omega
    refine Ev.step (fun k => by rw [laws_FnWayUp.l0]) ?_
    refine evF (by rw [ints_len]; omega) (evT (by rw [ints_len]; omega) ?_)
    rw [e]
    refine evT (by rw [show (0 : Int) = ((0 : Nat) : Int) from rfl, ints_rd w 0 (by omega), h2]) (evT (by omega) (evT (by rw [ints_len]; omega) ?_))
    refine Ev.bind (implRoot_ev hV hb h5) (evE (Ev.now _) ?_)
    rw [ints_rd w _ (by omega)]
    simp
  | succ d ih =>
    intro i hi
    obtain ⟨e, hu⟩ := h4 i (by omega)
    have hbi : w.getD i 0 < m := h3 i (by omega)
    have heT : e ∈ T := by rw [hTt]; exact tree_mem.2 ⟨_, _, hbi, hu⟩
    obtain ⟨j', hj', hje⟩ := List.getElem_of_mem heT
    refine Ev.step (fun k => by rw [laws_FnWayUp.l0]) ?_
    refine evT (by rw [ints_len]; omega) ?_
    refine fnWay_l1 hV hc hT hTl hwl h3 (b : Int) i (by omega) (ih (i + 1) (by omega)) T.length 0 false (by omega) (.inr ⟨j', by omega, hj', ?_⟩)
    rw [hje]
    exact Gc.of hV hu
theorem q_FnWayUp : laws_FnWayUp.Pure := by
  intro l hl1 hl2 hb
  refine Ev.rounds ?_
  simp only [laws_FnWayUp.f]
  by_cases h0 : (l.length : Int) > 1048576
  · exact evT h0 (Ev.now _)
  obtain ⟨n, xs, b, hd0, hxs⟩ := drawRoot_ev l hb
  have hd : Ev (fun k => spec_DrawWayUp.f k l) (n, xs, b) := by
    simp only [spec_DrawWayUp.f]
    exact Ev.bind hd0 (Ev.now _)
  obtain ⟨ws, hi, hs, hr⟩ := wayUp_ev n xs b
  have hwl : ws.length ≤ 1000 := by
    rcases hr with rfl | ⟨m, b', _, w, _, _, _, _, _, _, hw3, rfl⟩
    · simp
    · rw [ints_len]; exact hw3
  have hq : Ev (fun k => laws_wnInts.f k ws ws) true := evE (wnInts_ev ws ws (by omega)) (by simp)
  refine evF h0 (Ev.bind hd (Ev.bind hi (Ev.bind hs (Ev.bind hq (evT rfl ?_)))))
  dsimp only
  refine Ev.step (fun k => by rw [laws_FnWayUp.j0]) ?_
  rcases hr with rfl | ⟨m, b', ds, w, rfl, hV, rfl, hbm, hc, hw, hw3, rfl⟩
  · exact evT (by simp) (Ev.bind hs (Ev.bind hq (Ev.now _)))
  · obtain ⟨h1, _, _, _, _⟩ := hw.spec hV.okc hc hbm
    obtain ⟨d1, k1, _, hd1⟩ := costsOf_ev (m : Int) xs
    obtain ⟨ts, k2, _, ht⟩ := treeOf_ev (m : Int) xs
    have e1 : d1 = ds := by
      rcases hd1 with ⟨h, _⟩ | ⟨m', hm', _, hC⟩
      · rw [cv_intro hV] at h; cases h
      · have : m' = m := by omega
        subst this
        exact hC.uniq hc
    have e2 : ts = ints (treeL m (xs.map cbOf) ds) := by
      rcases ht with ⟨h, _⟩ | ⟨m', ds', hm', _, hC, e, _⟩
      · rw [cv_intro hV] at h; cases h
      · have : m' = m := by omega
        subst this
        rw [e, hC.uniq hc]
    subst e1 e2
    refine evF (show ¬ ((((ints w).length : Int) == 0) = true) from fun h => by rw [beq_iff_eq, ints_len] at h; omega) (Ev.bind k1 (Ev.bind k2 ?_))
    obtain ⟨p, hp⟩ : ∃ p, w.length = p + 1 := ⟨w.length - 1, by omega⟩
    exact fnWay_l0 hV hc rfl hbm hw hw3 p 0 (by omega)

end Go.Proofs.Ytegnghbgkiddoaa.Q
