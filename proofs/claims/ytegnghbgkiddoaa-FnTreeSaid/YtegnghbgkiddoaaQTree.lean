/- Plain lemmas on what the printed functions compute (seat Ytegnghbgkiddoaa, module QTree). Conditions: each lemma's own. -/
import Derived.Test.YtegnghbgkiddoaaQt
import Derived.Test.YtegnghbgkiddoaaQe
import Derived.Test.YtegnghbgkiddoaaPA0
import Derived.Test.YtegnghbgkiddoaaPA10
import Derived.Test.YtegnghbgkiddoaaPA14
import Derived.Test.YtegnghbgkiddoaaPA39
import Derived.Test.YtegnghbgkiddoaaPA52
set_option linter.unusedVariables false
set_option linter.unusedSimpArgs false
namespace Go.Proofs.Ytegnghbgkiddoaa.Q
open Go Go.RowKit Go.Proofs.Ytegnghbgkiddoaa.PA Go.Proofs.YtegnghbgkiddoaaW.PrintWords Go.Proofs.YtegnghbgkiddoaaW.PrintLast

theorem open_ev (l : List Int) (hb : ∀ x ∈ l, (Lit.int .u8 x).wf = true) : ∃ b, spec_l21Open.f l = some (b, 0) ∧ Bs b := by
  unfold spec_l21Open.f
  by_cases h : (l.length : Int) > 2000
  · refine ⟨l.take 2000, by rw [if_pos h, if_pos (by omega)], by simp; omega, fun x hx => lit_u8 (hb x (List.mem_of_mem_take hx))⟩
  · exact ⟨l, by rw [if_neg h], by omega, fun x hx => lit_u8 (hb x hx)⟩
theorem pick_ev (l : List Int) (hl : Bs l) (p n : Int) (hp : 0 ≤ p) (hp2 : p ≤ 500000) (hn : n ≤ 1000000000) :
    ∃ v, Ev (fun k => spec_l21Rd_pick.f k l p n) (v, p + 1) ∧ 0 ≤ v ∧ (1 ≤ n → v < n) := by
  obtain ⟨hl1, hb⟩ := hl
  have e1 : wrap64 (p + 1) = p + 1 := w64 (by omega) (by omega)
  simp only [spec_l21Rd_pick.f, e1]
  by_cases h1 : n < 1
  · refine ⟨0, evT h1 (Ev.step (fun k => by rw [spec_l21Rd_pick.j0]) (evT rfl (Ev.now _))), by omega, by omega⟩
  · by_cases h2 : l.length = 0
    · have e2 : ((l.length : Int) == 0) = true := by simpa using h2
      refine ⟨0, evF h1 (Ev.step (fun k => by rw [spec_l21Rd_pick.j0]) (evT e2 (Ev.now _))), by omega, by omega⟩
    · have e2 : ¬ (((l.length : Int) == 0) = true) := by simpa using h2
      have e3 : wrap64 (p + 1 - 1) = p := by rw [w64 (by omega) (by omega)]; omega
      by_cases h3 : p < (l.length : Int)
      · have hr := hb _ (rd_mem l p hp h3)
        have hv := tmod_bounds (wrap64 (rd l p)) n (by rw [w64 (by omega) (by omega)]; omega) (by omega)
        refine ⟨Int.tmod (wrap64 (rd l p)) n, evF h1 (Ev.step (fun k => by rw [spec_l21Rd_pick.j0]) ?_), hv.1, fun _ => hv.2⟩
        rw [e3]
        exact evF e2 (evT h3 (evT hp (evF (by omega) (Ev.now _))))
      · have e4 : wrap64 (p * 7) = p * 7 := w64 (by omega) (by omega)
        have e5 : wrap64 (p * 7 + 3) = p * 7 + 3 := w64 (by omega) (by omega)
        have b1 := tmod_bounds p (l.length : Int) hp (by omega)
        have b2 := tmod_bounds (p * 7 + 3) (l.length : Int) (by omega) (by omega)
        have r1 := hb _ (rd_mem l _ b1.1 b1.2)
        have r2 := hb _ (rd_mem l _ b2.1 b2.2)
        have q1 := tdiv_bounds p hp (l.length : Int) (by omega)
        have hx := mix_ok _ _ p _ r1 r2 hp (by omega) q1.1 (by omega)
        generalize hX : wrap64 ((wrap64 ((wrap64 ((wrap64 ((wrap64 (rd l (Int.tmod p (l.length : Int)))) * 131)) + (wrap64 ((wrap64 (rd l (Int.tmod (p * 7 + 3) (l.length : Int)))) * 1117)))) + (wrap64 (p * 29)))) + (wrap64 ((wrap64 (Int.tdiv p (l.length : Int))) * 53))) = X at hx
        have q2 := tdiv_bounds X hx.1 64 (by omega)
        have q3 : wrap64 (X.tdiv 64) = X.tdiv 64 := w64 (by omega) (by omega)
        have hz := bits_xor_i64_nonneg X (wrap64 (X.tdiv 64)) hx.1 (by omega) (by omega) (by omega)
        have hv := tmod_bounds _ n hz (by omega)
        refine ⟨Int.tmod (Go.bits .xor .i64 X (wrap64 (X.tdiv 64))) n, evF h1 (Ev.step (fun k => by rw [spec_l21Rd_pick.j0]) ?_), hv.1, fun _ => hv.2⟩
        simp only [e3, e4, e5, hX]
        exact evF e2 (evF h3 (evF (by omega) (evT b1.1 (evT b1.2 (evT b2.1 (evT b2.2 (evF (by omega) (Ev.now _))))))))
theorem num_ev (l : List Int) (hl : Bs l) (p : Int) (xs : List Int) (hp : 0 ≤ p) (hp2 : p ≤ 500000) (hn : 1 ≤ xs.length) (hn2 : xs.length ≤ 1000) :
    ∃ v, Ev (fun k => spec_l21Rd_num.f k l p xs) (v, p + 1) ∧ v ∈ xs := by
  obtain ⟨v, h, h0, h1⟩ := pick_ev l hl p (xs.length : Int) hp hp2 (by omega)
  refine ⟨rd xs v, ?_, rd_mem xs v h0 (h1 (by omega))⟩
  simp only [spec_l21Rd_num.f]
  exact Ev.bind h (evT h0 (evT (h1 (by omega)) (Ev.now _)))

/-! ### lists that are compared, copied, marked -/
theorem wnInts_l0 (a b : List Int) (hl : a.length = b.length) (hb : a.length ≤ 1000000000000) : ∀ d i : Nat, i + d = a.length →
    Ev (fun k => laws_wnInts.l0 k b a (a.length : Int) (i : Int)) (decide (a.drop i = b.drop i)) := by
  intro d
  induction d with
  | zero =>
    intro i hi
    refine Ev.step (fun k => by rw [laws_wnInts.l0]) ?_
    refine evF (by omega) (evE (Ev.now _) ?_)
    rw [List.drop_of_length_le (by omega), List.drop_of_length_le (by omega)]
    simp
  | succ d ih =>
    intro i hi
    have ha : a.drop i = a[i]'(by omega) :: a.drop (i + 1) := List.drop_eq_getElem_cons (by omega)
    have hb' : b.drop i = b[i]'(by omega) :: b.drop (i + 1) := List.drop_eq_getElem_cons (by omega)
    have e : wrap64 ((i : Int) + 1) = ((i + 1 : Nat) : Int) := by rw [w64 (by omega) (by omega)]; omega
    refine Ev.step (fun k => by rw [laws_wnInts.l0]) ?_
    refine evT (by omega) (evT (by omega) (evT (by omega) (evT (by omega) ?_)))
    rw [rd_at b i (by omega), rd_at a i (by omega), e]
    by_cases h : b[i]'(by omega) = a[i]'(by omega)
    · refine evT h (evE (ih (i + 1) (by omega)) ?_)
      rw [ha, hb']
      exact decide_eq_decide.2 ⟨fun e => by rw [h, e], fun e => (List.cons.inj e).2⟩
    · refine evF h (evE (Ev.now _) ?_)
      rw [ha, hb']
      exact (decide_eq_false (fun e => h (List.cons.inj e).1.symm)).symm
theorem wnInts_ev (a b : List Int) (hb : a.length ≤ 1000000000000) : Ev (fun k => laws_wnInts.f k a b) (decide (a = b)) := by
  simp only [laws_wnInts.f]
  by_cases h : a.length = b.length
  · exact evT (by omega) (evE (wnInts_l0 a b h hb a.length 0 (by omega)) (by simp))
  · exact evF (by omega) (evE (Ev.now _) (by simp; intro e; exact h (by rw [e])))

/-! ### draws of cables -/
theorem l7Cables_l0 (b : List Int) (hl : Bs b) (n : Int) (hn : 1 ≤ n) (hn2 : n ≤ 8) : ∀ (d : Nat) (acc : List S44) (p : Int), acc.length + d ≤ 20 → 0 ≤ p → p + 3 * d ≤ 400000 →
    ∃ xs q, Ev (fun k => spec_l7Cables.l0 k n acc (d : Int) b p) (n, xs, q) ∧ xs.length ≤ 20 ∧ p ≤ q ∧ q ≤ p + 3 * d := by
  intro d
  induction d with
  | zero =>
    intro acc p ha hp hp2
    refine ⟨acc, p, Ev.step (fun k => by rw [spec_l7Cables.l0]) ?_, by omega, by omega, by omega⟩
    refine evF (by omega) (Ev.step (fun k => by rw [spec_l7Cables.j1]) ?_)
    exact evF (by simp) (Ev.now _)
  | succ d ih =>
    intro acc p ha hp hp2
    by_cases hn1 : n > 1
    · obtain ⟨a, h1, a0, a1⟩ := pick_ev b hl p n hp (by omega) (by omega)
      obtain ⟨u, h2, u0, u1⟩ := pick_ev b hl (p + 1) (n - 1) (by omega) (by omega) (by omega)
      obtain ⟨c, h3, _⟩ := num_ev b hl (p + 1 + 1) ([1, 1, 2, 5, 10, 99] : List Int) (by omega) (by omega) (by simp) (by simp)
      obtain ⟨xs, q, h, k1, k2, k3⟩ := ih (acc ++ [(⟨a, Int.tmod (wrap64 ((wrap64 (a + 1)) + u)) n, c⟩ : S44)]) (p + 1 + 1 + 1) (by simp; omega) (by omega) (by omega)
      refine ⟨xs, q, Ev.step (fun k => by rw [spec_l7Cables.l0]) ?_, k1, by omega, by omega⟩
      rw [decide_eq_true hn1]
      refine evT (by omega) (Ev.step (fun k => by rw [spec_l7Cables.j1]) ?_)
      rw [w64 (x := n - 1) (by omega) (by omega)]
      refine evT rfl (Ev.bind h1 (Ev.bind h2 (evF (by omega) (Ev.bind h3 (evT (by omega) ?_)))))
      rw [show wrap64 (((d + 1 : Nat) : Int) - 1) = (d : Int) by rw [w64 (by omega) (by omega)]; omega]
      exact h
    · refine ⟨acc, p, Ev.step (fun k => by rw [spec_l7Cables.l0]) ?_, by omega, by omega, by omega⟩
      rw [decide_eq_false hn1]
      refine evT (by omega) (Ev.step (fun k => by rw [spec_l7Cables.j1]) ?_)
      exact evF (by simp) (Ev.now _)
theorem l7Cables_ev (b : List Int) (hl : Bs b) (p : Int) (hp : 0 ≤ p) (hp2 : p ≤ 300000) :
    ∃ n xs q, Ev (fun k => spec_l7Cables.f k b p) (n, xs, q) ∧ 1 ≤ n ∧ n ≤ 8 ∧ xs.length ≤ 20 ∧ p ≤ q ∧ q ≤ p + 100 := by
  obtain ⟨n, h1, hm⟩ := num_ev b hl p ([4, 6, 3, 8, 2, 1, 5] : List Int) hp (by omega) (by simp) (by simp)
  obtain ⟨v, h2, hm2⟩ := num_ev b hl (p + 1) ([5, 8, 12, 3, 0, 20] : List Int) (by omega) (by omega) (by simp) (by simp)
  have hnb : 1 ≤ n ∧ n ≤ 8 := by simp at hm; omega
  have hvb : 0 ≤ v ∧ v ≤ 20 := by simp at hm2; omega
  obtain ⟨d, rfl⟩ := Int.eq_ofNat_of_zero_le hvb.1
  obtain ⟨xs, q, h, k1, k2, k3⟩ := l7Cables_l0 b hl n hnb.1 hnb.2 d [] (p + 1 + 1) (by simp; omega) (by omega) (by omega)
  refine ⟨n, xs, q, ?_, hnb.1, hnb.2, k1, by omega, by omega⟩
  simp only [spec_l7Cables.f]
  exact Ev.bind h1 (Ev.bind h2 h)
theorem l7Bent_ev (b : List Int) (hl : Bs b) (p : Int) (hp : 0 ≤ p) (hp2 : p ≤ 200000) :
    ∃ n xs q, Ev (fun k => spec_l7Bent.f k b p) (n, xs, q) ∧ 0 ≤ n ∧ n ≤ 9 ∧ xs.length ≤ 21 ∧ p ≤ q ∧ q ≤ p + 110 := by
  obtain ⟨n, xs, q, h1, k1, k2, k3, k4, k5⟩ := l7Cables_ev b hl p hp (by omega)
  obtain ⟨v, h2, v0, v1⟩ := pick_ev b hl q 60 (by omega) (by omega) (by omega)
  by_cases c0 : v = 0
  · obtain ⟨u, h3, hm⟩ := num_ev b hl (q + 1) ([0, 9] : List Int) (by omega) (by omega) (by simp) (by simp)
    have hub : 0 ≤ u ∧ u ≤ 9 := by simp at hm; omega
    refine ⟨u, xs, q + 1 + 1, ?_, hub.1, hub.2, by omega, by omega, by omega⟩
    simp only [spec_l7Bent.f]
    refine Ev.bind h1 (Ev.bind h2 ?_)
    exact evT c0 (Ev.bind h3 (Ev.now _))
  · by_cases c1 : v = 1
    · refine ⟨n, xs ++ [(⟨0, 0, 1⟩ : S44)], q + 1, ?_, by omega, by omega, by simp; omega, by omega, by omega⟩
      simp only [spec_l7Bent.f]
      refine Ev.bind h1 (Ev.bind h2 ?_)
      exact evF c0 (evT c1 (evT (by simp only []; omega) (Ev.now _)))
    · by_cases c2 : v = 2
      · refine ⟨n, xs ++ [(⟨0, n, 1⟩ : S44)], q + 1, ?_, by omega, by omega, by simp; omega, by omega, by omega⟩
        simp only [spec_l7Bent.f]
        refine Ev.bind h1 (Ev.bind h2 ?_)
        exact evF c0 (evF c1 (evT c2 (evT (by simp only []; omega) (Ev.now _))))
      · by_cases c3 : v = 3
        · obtain ⟨u, h3, hm⟩ := num_ev b hl (q + 1) ([0, 100] : List Int) (by omega) (by omega) (by simp) (by simp)
          refine ⟨n, xs ++ [(⟨0, 1, u⟩ : S44)], q + 1 + 1, ?_, by omega, by omega, by simp; omega, by omega, by omega⟩
          simp only [spec_l7Bent.f]
          refine Ev.bind h1 (Ev.bind h2 ?_)
          exact evF c0 (evF c1 (evF c2 (evT c3 (Ev.bind h3 (evT (by simp only []; omega) (Ev.now _))))))
        · refine ⟨n, xs, q + 1, ?_, by omega, by omega, by omega, by omega, by omega⟩
          simp only [spec_l7Bent.f]
          refine Ev.bind h1 (Ev.bind h2 ?_)
          exact evF c0 (evF c1 (evF c2 (evF c3 (Ev.now _))))

/-! ### some of the cables -/
def pk (l : List S44) (T : List Nat) : List S44 := T.map fun i => l.getD i z44
theorem pk_map (l : List S44) (T : List Nat) : (pk l T).map cbOf = pickL (l.map cbOf) T := by
  unfold pk pickL
  rw [List.map_map]
  refine List.map_congr_left fun i _ => ?_
  show cbOf (l.getD i z44) = (l.map cbOf).getD i noCb
  by_cases h : i < l.length
  · simp [List.getD_eq_getElem?_getD, h]
  · simp [List.getD_eq_getElem?_getD, h, cbOf, z44, noCb]
theorem pk_vd {m : Nat} {l : List S44} (hV : Vd m l) {T : List Nat} (hT : ∀ i ∈ T, i < l.length) (hl : T.length ≤ 20) : Vd m (pk l T) := by
  refine ⟨hV.m1, hV.m8, by simpa [pk] using hl, fun i hi => ?_⟩
  have hi' : i < T.length := by simpa [pk] using hi
  have h1 := hT _ (List.getElem_mem hi')
  obtain ⟨a, b, c, e, h2⟩ := hV.ok _ h1
  refine ⟨a, b, c, ?_, h2⟩
  simp [pk, List.getD_eq_getElem?_getD, h1, e]
theorem pk_at (l : List S44) (i : Nat) (h : i < l.length) : (⟨(rd_T44 l (i : Int)).f0, (rd_T44 l (i : Int)).f1, (rd_T44 l (i : Int)).f2⟩ : S44) = l.getD i z44 := by
  simp [rd_T44]
theorem pk_snoc (l : List S44) (T : List Nat) (i : Nat) : pk l T ++ [l.getD i z44] = pk l (T ++ [i]) := by simp [pk]
theorem ints_at (T : List Nat) (i : Nat) (h : i < T.length) : rd (ints T) (i : Int) = (T[i] : Int) := by
  simp [rd, ints, List.getD_eq_getElem?_getD, h]
theorem ints_len (T : List Nat) : (ints T).length = T.length := by simp [ints]
theorem treeL_len {m : Nat} {L : List Cb} {ds : List Int} : (treeL m L ds).length ≤ L.length := by
  unfold treeL
  exact Nat.le_trans (List.length_filter_le _ _) (by simp)
theorem drawTree_ev (l : List Int) (hb : ∀ x ∈ l, (Lit.int .u8 x).wf = true) : ∃ n xs, Ev (fun k => spec_DrawTreeOf.f k l) (n, xs) ∧ xs.length ≤ 21 ∧ 0 ≤ n := by
  obtain ⟨b, ho, hl⟩ := open_ev l hb
  obtain ⟨n, xs, q, h1, k1, k2, k3, k4, k5⟩ := l7Bent_ev b hl 0 (by omega) (by omega)
  refine ⟨n, xs, ?_, k3, k1⟩
  simp only [spec_DrawTreeOf.f]
  exact evS ho (Ev.bind h1 (Ev.now _))

theorem fnTree_l1 {m : Nat} {l : List S44} (hV : Vd m l) {ds : List Int} (hc : Cs m (l.map cbOf) ds) {T : List Nat} (hT : T = treeL m (l.map cbOf) ds) (hlen : T.length + many (fun x => decide (ds.getD x 0 = 0)) m = m) (hVS : Vd m (pk l T)) : ∀ (d b : Nat) (z : Int), b + d = m → z = (many (fun x => decide (ds.getD x 0 = 0)) b : Int) →
    Ev (fun k => laws_FnTree.l1 k (m : Int) l (ints T) (pk l T) z (m : Int) (b : Int)) true := by
  have hm8 := hV.m8
  have hmany := many_le (fun x => decide (ds.getD x 0 = 0)) m
  intro d
  induction d with
  | zero =>
    intro b z hb hz
    obtain rfl : b = m := by omega
    obtain ⟨d1, h1, _, hd1⟩ := costsOf_ev (b : Int) (pk l T)
    obtain ⟨d2, h2, _, hd2⟩ := costsOf_ev (b : Int) l
    have e1 : d1 = ds := by
      rcases hd1 with ⟨h, _⟩ | ⟨m', hm', _, hC⟩
      · rw [cv_intro hVS] at h; cases h
      · have : m' = b := by omega
        subst this
        rw [pk_map, hT] at hC
        exact hC.uniq (tree_cs hV.okc hc)
    have e2 : d2 = ds := by
      rcases hd2 with ⟨h, _⟩ | ⟨m', hm', _, hC⟩
      · rw [cv_intro hV] at h; cases h
      · have : m' = b := by omega
        subst this
        exact hC.uniq hc
    rw [e1] at h1
    rw [e2] at h2
    refine Ev.step (fun k => by rw [laws_FnTree.l1]) ?_
    refine evF (by omega) (evT (by rw [ints_len, w64 (by omega) (by omega)]; omega) (Ev.bind h1 (Ev.bind h2 (Ev.bind (wnInts_ev _ _ (by rw [hc.1]; omega)) (evE (Ev.now _) (by simp))))))
  | succ d ih =>
    intro b z hb hz
    have e : wrap64 ((b : Int) + 1) = ((b + 1 : Nat) : Int) := by rw [w64 (by omega) (by omega)]; omega
    have hmb := many_le (fun x => decide (ds.getD x 0 = 0)) b
    have hbm : b < m := by omega
    obtain ⟨r, hr⟩ := Rt.ex (l.map cbOf) b
    have hk := (tree_keeps hV.okc hc hbm hr).1
    rw [← hT, ← pk_map] at hk
    have hz0 := (hc.2 b hbm).zero_iff hV.okc hr
    have nx : ∀ z', z' = (many (fun x => decide (ds.getD x 0 = 0)) (b + 1) : Int) → Ev (fun k => laws_FnTree.j3 k (m : Int) l (ints T) (pk l T) z' (b : Int) (m : Int) (b : Int)) true := fun z' hz' => by
      refine Ev.step (fun k => by rw [laws_FnTree.j3]) ?_
      refine Ev.bind (implRoot_ev hVS hbm hk) (Ev.bind (implRoot_ev hV hbm hr) (evT rfl ?_))
      rw [e]
      exact ih (b + 1) z' (by omega) hz'
    refine Ev.step (fun k => by rw [laws_FnTree.l1]) ?_
    refine evT (by omega) (Ev.bind (implRoot_ev hV hbm hr) ?_)
    by_cases g : (r : Int) = (b : Int)
    · refine evT g (nx _ ?_)
      rw [many_succ, if_pos (by simp; exact hz0.2 (by omega)), hz, w64 (by omega) (by omega)]
      omega
    · refine evF g (nx _ ?_)
      rw [many_succ, if_neg (by simp; exact fun h => g (by have := hz0.1 h; omega)), hz]
      omega
theorem fnTree_l0 {m : Nat} {l : List S44} (hV : Vd m l) {ds : List Int} (hc : Cs m (l.map cbOf) ds) {T : List Nat} (hT : T = treeL m (l.map cbOf) ds) (hlen : T.length + many (fun x => decide (ds.getD x 0 = 0)) m = m) : ∀ (d i : Nat), i + d = T.length →
    Ev (fun k => laws_FnTree.l0 k (m : Int) l (ints T) (pk l (T.take i)) (ints T) ((ints T).length : Int) (i : Int)) true := by
  have hl20 := hV.len
  have hTl : T.length ≤ 20 := by rw [hT]; have := treeL_len (m := m) (L := l.map cbOf) (ds := ds); rw [List.length_map] at this; omega
  have hTm : ∀ i ∈ T, i < l.length := fun i hi => by rw [hT] at hi; simpa using tree_lt hi
  have hTs : T.Pairwise (· < ·) := by rw [hT]; exact tree_sorted _ _ _
  intro d
  induction d with
  | zero =>
    intro i hi
    rw [List.take_of_length_le (by omega)]
    refine Ev.step (fun k => by rw [laws_FnTree.l0]) ?_
    refine evF (by rw [ints_len]; omega) ?_
    exact fnTree_l1 hV hc hT hlen (pk_vd hV hTm hTl) m 0 0 (by omega) rfl
  | succ d ih =>
    intro i hi
    have e : wrap64 ((i : Int) + 1) = ((i + 1 : Nat) : Int) := by rw [w64 (by omega) (by omega)]; omega
    have hil : i < T.length := by omega
    have him := hTm _ (List.getElem_mem hil)
    have nx := ih (i + 1) (by omega)
    rw [List.take_succ_eq_append_getElem hil, ← pk_snoc] at nx
    refine Ev.step (fun k => by rw [laws_FnTree.l0]) ?_
    refine evT (by rw [ints_len]; omega) (evT (by omega) (evT (by rw [ints_len]; omega) ?_))
    rw [ints_at T i hil, e]
    by_cases g : i = 0
    · refine evF (by omega) (evT (by omega) (evT (by omega) (evT (by simp [pk]; omega) ?_)))
      rw [pk_at l _ him]
      exact nx
    · obtain ⟨p, rfl⟩ : ∃ p, i = p + 1 := ⟨i - 1, by omega⟩
      have ep : wrap64 (((p + 1 : Nat) : Int) - 1) = (p : Int) := by rw [w64 (by omega) (by omega)]; omega
      have hlt : T[p] < T[p + 1] := List.pairwise_iff_getElem.1 hTs p (p + 1) (by omega) hil (by omega)
      rw [ep]
      refine evT (by omega) (evT (by omega) (evT (by rw [ints_len]; omega) ?_))
      rw [ints_at T p (by omega)]
      refine evF (by omega) (evT (by omega) (evT (by omega) (evT (by simp [pk]; omega) ?_)))
      rw [pk_at l _ him]
      exact nx
theorem q_FnTree : laws_FnTree.Pure := by
  intro l hl1 hl2 hb
  refine Ev.rounds ?_
  simp only [laws_FnTree.f]
  by_cases h0 : (l.length : Int) > 1048576
  · exact evT h0 (Ev.now _)
  obtain ⟨n, xs, hd, hxs, hn0⟩ := drawTree_ev l hb
  obtain ⟨ts, hi, hs, hr⟩ := treeOf_ev n xs
  have htl : ts.length ≤ 21 := by
    rcases hr with ⟨_, rfl⟩ | ⟨m, ds, _, hV, hc, rfl, _⟩
    · simp
    · rw [ints_len]
      have := treeL_len (m := m) (L := xs.map cbOf) (ds := ds)
      rw [List.length_map] at this
      omega
  have hq : Ev (fun k => laws_wnInts.f k ts ts) true := evE (wnInts_ev ts ts (by omega)) (by simp)
  refine evF h0 (Ev.bind hd (Ev.bind hi (Ev.bind hs (Ev.bind hq (evT rfl (evS (implCables_eq _ _) ?_))))))
  refine Ev.step (fun k => by rw [laws_FnTree.j0]) ?_
  rcases hr with ⟨hcv, rfl⟩ | ⟨m, ds, rfl, hV, hc, rfl, hlen⟩
  · rw [hcv]
    refine evT rfl (Ev.bind hs (Ev.bind hq (evT rfl (evE (Ev.now _) ?_))))
    simpa using hn0
  · rw [cv_intro hV]
    refine evF (by simp) ?_
    exact fnTree_l0 hV hc rfl hlen (treeL m (xs.map cbOf) ds).length 0 (by omega)

end Go.Proofs.Ytegnghbgkiddoaa.Q
