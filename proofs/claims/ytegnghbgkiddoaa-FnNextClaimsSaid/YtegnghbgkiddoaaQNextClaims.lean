/- Plain lemmas on what the printed functions compute (seat Ytegnghbgkiddoaa, module QNextClaims). Conditions: each lemma's own. -/
import Derived.Test.YtegnghbgkiddoaaQYc
import Derived.Test.YtegnghbgkiddoaaPA0
import Derived.Test.YtegnghbgkiddoaaPA10
import Derived.Test.YtegnghbgkiddoaaPA14
import Derived.Test.YtegnghbgkiddoaaPA33
import Derived.Test.YtegnghbgkiddoaaPA49
import Derived.Test.YtegnghbgkiddoaaPA50
set_option linter.unusedVariables false
set_option linter.unusedSimpArgs false
namespace Go.Proofs.Ytegnghbgkiddoaa.Q
open Go Go.RowKit Go.Proofs.Ytegnghbgkiddoaa.PA Go.Proofs.YtegnghbgkiddoaaW.PrintWords Go.Proofs.YtegnghbgkiddoaaW.PrintLast

theorem open_ev (l : List Int) (hb : ∀ x ∈ l, (Lit.int .u8 x).wf = true) : ∃ b, spec_l21Open.f l = some (b, 0) ∧ Bs b := by
  unfold spec_l21Open.f
  by_cases h : (l.length : Int) > 2000
  · refine ⟨l.take 2000, by rw [if_pos h, if_pos (by omega)], by simp; omega, fun x hx => lit_u8 (hb x (List.mem_of_mem_take hx))⟩
  · exact ⟨l, by rw [if_neg h], by omega, fun x hx => lit_u8 (hb x hx)⟩
theorem pick_ev (l : List Int) (hl : Bs l) (p n : Int) (hp : 0 ≤ p) (hp2 : p ≤ 500000) (hn : n ≤ 1000000000) :
    ∃ v, Ev (fun k => spec_l21Rd_pick.f k l p n) (v, p + 1) ∧ 0 ≤ v ∧ (1 ≤ n → v < n) := by
  obtain ⟨hl1, hb⟩ := hl
  have e1 : wrap64 (p + 1) = p + 1 := w64 (by omega) (by omega)
  simp only [spec_l21Rd_pick.f, e1]
  by_cases h1 : n < 1
  · refine ⟨0, evT h1 (Ev.step (fun k => by rw [spec_l21Rd_pick.j0]) (evT rfl (Ev.now _))), by omega, by omega⟩
  · by_cases h2 : l.length = 0
    · have e2 : ((l.length : Int) == 0) = true := by simpa using h2
      refine ⟨0, evF h1 (Ev.step (fun k => by rw [spec_l21Rd_pick.j0]) (evT e2 (Ev.now _))), by omega, by omega⟩
    · have e2 : ¬ (((l.length : Int) == 0) = true) := by simpa using h2
      have e3 : wrap64 (p + 1 - 1) = p := by rw [w64 (by omega) (by omega)]; omega
      by_cases h3 : p < (l.length : Int)
      · have hr := hb _ (rd_mem l p hp h3)
        have hv := tmod_bounds (wrap64 (rd l p)) n (by rw [w64 (by omega) (by omega)]; omega) (by omega)
        refine ⟨Int.tmod (wrap64 (rd l p)) n, evF h1 (Ev.step (fun k => by rw [spec_l21Rd_pick.j0]) ?_), hv.1, fun _ => hv.2⟩
        rw [e3]
        exact evF e2 (evT h3 (evT hp (evF (by omega) (Ev.now _))))
      · have e4 : wrap64 (p * 7) = p * 7 := w64 (by omega) (by omega)
        have e5 : wrap64 (p * 7 + 3) = p * 7 + 3 := w64 (by omega) (by omega)
        have b1 := tmod_bounds p (l.length : Int) hp (by omega)
        have b2 := tmod_bounds (p * 7 + 3) (l.length : Int) (by omega) (by omega)
        have r1 := hb _ (rd_mem l _ b1.1 b1.2)
        have r2 := hb _ (rd_mem l _ b2.1 b2.2)
        have q1 := tdiv_bounds p hp (l.length : Int) (by omega)
        have hx := mix_ok _ _ p _ r1 r2 hp (by omega) q1.1 (by omega)
        generalize hX : wrap64 ((wrap64 ((wrap64 ((wrap64 ((wrap64 (rd l (Int.tmod p (l.length : Int)))) * 131)) + (wrap64 ((wrap64 (rd l (Int.tmod (p * 7 + 3) (l.length : Int)))) * 1117)))) + (wrap64 (p * 29)))) + (wrap64 ((wrap64 (Int.tdiv p (l.length : Int))) * 53))) = X at hx
        have q2 := tdiv_bounds X hx.1 64 (by omega)
        have q3 : wrap64 (X.tdiv 64) = X.tdiv 64 := w64 (by omega) (by omega)
        have hz := bits_xor_i64_nonneg X (wrap64 (X.tdiv 64)) hx.1 (by omega) (by omega) (by omega)
        have hv := tmod_bounds _ n hz (by omega)
        refine ⟨Int.tmod (Go.bits .xor .i64 X (wrap64 (X.tdiv 64))) n, evF h1 (Ev.step (fun k => by rw [spec_l21Rd_pick.j0]) ?_), hv.1, fun _ => hv.2⟩
        simp only [e3, e4, e5, hX]
        exact evF e2 (evF h3 (evF (by omega) (evT b1.1 (evT b1.2 (evT b2.1 (evT b2.2 (evF (by omega) (Ev.now _))))))))
theorem num_ev (l : List Int) (hl : Bs l) (p : Int) (xs : List Int) (hp : 0 ≤ p) (hp2 : p ≤ 500000) (hn : 1 ≤ xs.length) (hn2 : xs.length ≤ 1000) :
    ∃ v, Ev (fun k => spec_l21Rd_num.f k l p xs) (v, p + 1) ∧ v ∈ xs := by
  obtain ⟨v, h, h0, h1⟩ := pick_ev l hl p (xs.length : Int) hp hp2 (by omega)
  refine ⟨rd xs v, ?_, rd_mem xs v h0 (h1 (by omega))⟩
  simp only [spec_l21Rd_num.f]
  exact Ev.bind h (evT h0 (evT (h1 (by omega)) (Ev.now _)))

/-! ### lists that are compared, copied, marked -/
theorem wnInts_l0 (a b : List Int) (hl : a.length = b.length) (hb : a.length ≤ 1000000000000) : ∀ d i : Nat, i + d = a.length →
    Ev (fun k => laws_wnInts.l0 k b a (a.length : Int) (i : Int)) (decide (a.drop i = b.drop i)) := by
  intro d
  induction d with
  | zero =>
    intro i hi
    refine Ev.step (fun k => by rw [laws_wnInts.l0]) ?_
    refine evF (by omega) (evE (Ev.now _) ?_)
    rw [List.drop_of_length_le (by omega), List.drop_of_length_le (by omega)]
    simp
  | succ d ih =>
    intro i hi
    have ha : a.drop i = a[i]'(by omega) :: a.drop (i + 1) := List.drop_eq_getElem_cons (by omega)
    have hb' : b.drop i = b[i]'(by omega) :: b.drop (i + 1) := List.drop_eq_getElem_cons (by omega)
    have e : wrap64 ((i : Int) + 1) = ((i + 1 : Nat) : Int) := by rw [w64 (by omega) (by omega)]; omega
    refine Ev.step (fun k => by rw [laws_wnInts.l0]) ?_
    refine evT (by omega) (evT (by omega) (evT (by omega) (evT (by omega) ?_)))
    rw [rd_at b i (by omega), rd_at a i (by omega), e]
    by_cases h : b[i]'(by omega) = a[i]'(by omega)
    · refine evT h (evE (ih (i + 1) (by omega)) ?_)
      rw [ha, hb']
      exact decide_eq_decide.2 ⟨fun e => by rw [h, e], fun e => (List.cons.inj e).2⟩
    · refine evF h (evE (Ev.now _) ?_)
      rw [ha, hb']
      exact (decide_eq_false (fun e => h (List.cons.inj e).1.symm)).symm
theorem wnInts_ev (a b : List Int) (hb : a.length ≤ 1000000000000) : Ev (fun k => laws_wnInts.f k a b) (decide (a = b)) := by
  simp only [laws_wnInts.f]
  by_cases h : a.length = b.length
  · exact evT (by omega) (evE (wnInts_l0 a b h hb a.length 0 (by omega)) (by simp))
  · exact evF (by omega) (evE (Ev.now _) (by simp; intro e; exact h (by rw [e])))

/-! ### rows of rows: compared, marked, held -/
theorem ssAt (pre post : List (List Int)) (c : List Int) : rd_L5 (pre ++ c :: post) (pre.length : Int) = c := by
  simp [rd_L5, List.getD_eq_getElem?_getD]
theorem ss_next (pre : List (List Int)) (c : List Int) (h : pre.length + 1 ≤ 1000000000000) : wrap64 ((pre.length : Int) + 1) = (((pre ++ [c]).length : Nat) : Int) := by
  rw [w64 (by omega) (by omega)]; simp
/-- some rows, and not many -/
structure Few (l : List (List Int)) : Prop where
  len : l.length ≤ 1000
  row : ∀ c ∈ l, c.length ≤ 1000000

/-! ### draws of cables -/
theorem l7Cables_l0 (b : List Int) (hl : Bs b) (n : Int) (hn : 1 ≤ n) (hn2 : n ≤ 8) : ∀ (d : Nat) (acc : List S44) (p : Int), acc.length + d ≤ 20 → 0 ≤ p → p + 3 * d ≤ 400000 →
    ∃ xs q, Ev (fun k => spec_l7Cables.l0 k n acc (d : Int) b p) (n, xs, q) ∧ xs.length ≤ 20 ∧ p ≤ q ∧ q ≤ p + 3 * d := by
  intro d
  induction d with
  | zero =>
    intro acc p ha hp hp2
    refine ⟨acc, p, Ev.step (fun k => by rw [spec_l7Cables.l0]) ?_, by omega, by omega, by omega⟩
    refine evF (by omega) (Ev.step (fun k => by rw [spec_l7Cables.j1]) ?_)
    exact evF (by simp) (Ev.now _)
  | succ d ih =>
    intro acc p ha hp hp2
    by_cases hn1 : n > 1
    · obtain ⟨a, h1, a0, a1⟩ := pick_ev b hl p n hp (by omega) (by omega)
      obtain ⟨u, h2, u0, u1⟩ := pick_ev b hl (p + 1) (n - 1) (by omega) (by omega) (by omega)
      obtain ⟨c, h3, _⟩ := num_ev b hl (p + 1 + 1) ([1, 1, 2, 5, 10, 99] : List Int) (by omega) (by omega) (by simp) (by simp)
      obtain ⟨xs, q, h, k1, k2, k3⟩ := ih (acc ++ [(⟨a, Int.tmod (wrap64 ((wrap64 (a + 1)) + u)) n, c⟩ : S44)]) (p + 1 + 1 + 1) (by simp; omega) (by omega) (by omega)
      refine ⟨xs, q, Ev.step (fun k => by rw [spec_l7Cables.l0]) ?_, k1, by omega, by omega⟩
      rw [decide_eq_true hn1]
      refine evT (by omega) (Ev.step (fun k => by rw [spec_l7Cables.j1]) ?_)
      rw [w64 (x := n - 1) (by omega) (by omega)]
      refine evT rfl (Ev.bind h1 (Ev.bind h2 (evF (by omega) (Ev.bind h3 (evT (by omega) ?_)))))
      rw [show wrap64 (((d + 1 : Nat) : Int) - 1) = (d : Int) by rw [w64 (by omega) (by omega)]; omega]
      exact h
    · refine ⟨acc, p, Ev.step (fun k => by rw [spec_l7Cables.l0]) ?_, by omega, by omega, by omega⟩
      rw [decide_eq_false hn1]
      refine evT (by omega) (Ev.step (fun k => by rw [spec_l7Cables.j1]) ?_)
      exact evF (by simp) (Ev.now _)
theorem l7Cables_ev (b : List Int) (hl : Bs b) (p : Int) (hp : 0 ≤ p) (hp2 : p ≤ 300000) :
    ∃ n xs q, Ev (fun k => spec_l7Cables.f k b p) (n, xs, q) ∧ 1 ≤ n ∧ n ≤ 8 ∧ xs.length ≤ 20 ∧ p ≤ q ∧ q ≤ p + 100 := by
  obtain ⟨n, h1, hm⟩ := num_ev b hl p ([4, 6, 3, 8, 2, 1, 5] : List Int) hp (by omega) (by simp) (by simp)
  obtain ⟨v, h2, hm2⟩ := num_ev b hl (p + 1) ([5, 8, 12, 3, 0, 20] : List Int) (by omega) (by omega) (by simp) (by simp)
  have hnb : 1 ≤ n ∧ n ≤ 8 := by simp at hm; omega
  have hvb : 0 ≤ v ∧ v ≤ 20 := by simp at hm2; omega
  obtain ⟨d, rfl⟩ := Int.eq_ofNat_of_zero_le hvb.1
  obtain ⟨xs, q, h, k1, k2, k3⟩ := l7Cables_l0 b hl n hnb.1 hnb.2 d [] (p + 1 + 1) (by simp; omega) (by omega) (by omega)
  refine ⟨n, xs, q, ?_, hnb.1, hnb.2, k1, by omega, by omega⟩
  simp only [spec_l7Cables.f]
  exact Ev.bind h1 (Ev.bind h2 h)
theorem l7Bent_ev (b : List Int) (hl : Bs b) (p : Int) (hp : 0 ≤ p) (hp2 : p ≤ 200000) :
    ∃ n xs q, Ev (fun k => spec_l7Bent.f k b p) (n, xs, q) ∧ 0 ≤ n ∧ n ≤ 9 ∧ xs.length ≤ 21 ∧ p ≤ q ∧ q ≤ p + 110 := by
  obtain ⟨n, xs, q, h1, k1, k2, k3, k4, k5⟩ := l7Cables_ev b hl p hp (by omega)
  obtain ⟨v, h2, v0, v1⟩ := pick_ev b hl q 60 (by omega) (by omega) (by omega)
  by_cases c0 : v = 0
  · obtain ⟨u, h3, hm⟩ := num_ev b hl (q + 1) ([0, 9] : List Int) (by omega) (by omega) (by simp) (by simp)
    have hub : 0 ≤ u ∧ u ≤ 9 := by simp at hm; omega
    refine ⟨u, xs, q + 1 + 1, ?_, hub.1, hub.2, by omega, by omega, by omega⟩
    simp only [spec_l7Bent.f]
    refine Ev.bind h1 (Ev.bind h2 ?_)
    exact evT c0 (Ev.bind h3 (Ev.now _))
  · by_cases c1 : v = 1
    · refine ⟨n, xs ++ [(⟨0, 0, 1⟩ : S44)], q + 1, ?_, by omega, by omega, by simp; omega, by omega, by omega⟩
      simp only [spec_l7Bent.f]
      refine Ev.bind h1 (Ev.bind h2 ?_)
      exact evF c0 (evT c1 (evT (by simp only []; omega) (Ev.now _)))
    · by_cases c2 : v = 2
      · refine ⟨n, xs ++ [(⟨0, n, 1⟩ : S44)], q + 1, ?_, by omega, by omega, by simp; omega, by omega, by omega⟩
        simp only [spec_l7Bent.f]
        refine Ev.bind h1 (Ev.bind h2 ?_)
        exact evF c0 (evF c1 (evT c2 (evT (by simp only []; omega) (Ev.now _))))
      · by_cases c3 : v = 3
        · obtain ⟨u, h3, hm⟩ := num_ev b hl (q + 1) ([0, 100] : List Int) (by omega) (by omega) (by simp) (by simp)
          refine ⟨n, xs ++ [(⟨0, 1, u⟩ : S44)], q + 1 + 1, ?_, by omega, by omega, by simp; omega, by omega, by omega⟩
          simp only [spec_l7Bent.f]
          refine Ev.bind h1 (Ev.bind h2 ?_)
          exact evF c0 (evF c1 (evF c2 (evT c3 (Ev.bind h3 (evT (by simp only []; omega) (Ev.now _))))))
        · refine ⟨n, xs, q + 1, ?_, by omega, by omega, by omega, by omega, by omega⟩
          simp only [spec_l7Bent.f]
          refine Ev.bind h1 (Ev.bind h2 ?_)
          exact evF c0 (evF c1 (evF c2 (evF c3 (Ev.now _))))

theorem wnPairs_l0 : ∀ (post pre : List (List Int)) (n : Int), n = ((pre ++ post).length : Int) → pre.length + post.length ≤ 1000000000000 → (∀ c ∈ post, c.length ≤ 1000000000000) →
    Ev (fun k => laws_wnPairs.l0 k (pre ++ post) (pre ++ post) n (pre.length : Int)) true := by
  intro post
  induction post with
  | nil =>
    intro pre n hn h hr
    refine Ev.step (fun k => by rw [laws_wnPairs.l0]) ?_
    exact evF (by rw [hn]; simp) (Ev.now _)
  | cons c post ih =>
    intro pre n hn h hr
    have hn2 : n = ((pre ++ [c] ++ post).length : Int) := by rw [hn]; simp
    rw [List.length_cons] at h
    rw [List.length_append, List.length_cons] at hn
    refine Ev.step (fun k => by rw [laws_wnPairs.l0]) ?_
    refine evT (by omega) (evT (by omega) (evT (by rw [List.length_append, List.length_cons]; omega) (evT (by rw [List.length_append, List.length_cons]; omega) ?_)))
    rw [ssAt, ss_next pre c (by omega)]
    refine Ev.bind (wnInts_ev c c (hr c (by simp))) (evT (by simp) ?_)
    have := ih (pre ++ [c]) n hn2 (by simp; omega) (fun x hx => hr x (by simp [hx]))
    rw [List.append_assoc] at this
    exact this
theorem wnPairs_ev (a : List (List Int)) (h : a.length ≤ 1000000000000) (hr : ∀ c ∈ a, c.length ≤ 1000000000000) : Ev (fun k => laws_wnPairs.f k a a) true := by
  simp only [laws_wnPairs.f]
  exact evT (by trivial) (wnPairs_l0 a [] _ rfl (by simpa using h) hr)

/-! ### a claim that is heard -/
theorem drawNext_ev (l : List Int) (hb : ∀ x ∈ l, (Lit.int .u8 x).wf = true) : ∃ n xs cl, Ev (fun k => spec_DrawNextClaims.f k l) (n, xs, cl) := by
  obtain ⟨b, ho, hl⟩ := open_ev l hb
  obtain ⟨n, xs, q, h1, k1, k2, k3, k4, k5⟩ := l7Bent_ev b hl 0 (by omega) (by omega)
  obtain ⟨v, h2, _, _⟩ := pick_ev b hl q 4 (by omega) (by omega) (by omega)
  have hs := specAfter_ev n xs v
  have hle : (afterR n xs v).length ≤ 8 := by
    unfold afterR
    split
    · rename_i h
      obtain ⟨m, rfl, hV⟩ := cv_elim h.1
      have := hV.m8
      rw [Int.toNat_natCast, clR_len]
      omega
    · simp
  generalize afterR n xs v = cl at hs hle
  by_cases c1 : 0 < cl.length
  · obtain ⟨b3, h3, _, _⟩ := pick_ev b hl (q + 1) 4 (by omega) (by omega) (by omega)
    by_cases c3 : b3 = 0
    · obtain ⟨b4, h4, h40, h41⟩ := pick_ev b hl (q + 1 + 1) (cl.length : Int) (by omega) (by omega) (by omega)
      obtain ⟨b5, h5, _, _⟩ := pick_ev b hl (q + 1 + 1 + 1) 9 (by omega) (by omega) (by omega)
      obtain ⟨b6, h6, _⟩ := num_ev b hl (q + 1 + 1 + 1 + 1) ([0, 7, 10000, 10001, (-1)] : List Int) (by omega) (by omega) (by simp) (by simp)
      obtain ⟨b7, h7, h70, h71⟩ := pick_ev b hl (q + 1 + 1 + 1 + 1 + 1) 8 (by omega) (by omega) (by omega)
      refine ⟨n, xs, cl.set b4.toNat (spec_DrawNextClaims.row b5 b6 b7), ?_⟩
      simp only [spec_DrawNextClaims.f]
      exact evS ho (Ev.bind h1 (Ev.bind h2 (Ev.bind hs (evT c1 (Ev.bind h3 (evT c3 (Ev.bind h4 (Ev.bind h5 (Ev.bind h6 (Ev.bind h7 (evT ⟨⟨h40, h41 (by omega)⟩, h70, h71 (by omega)⟩ (Ev.now _))))))))))))
    · refine ⟨n, xs, cl, ?_⟩
      simp only [spec_DrawNextClaims.f]
      exact evS ho (Ev.bind h1 (Ev.bind h2 (Ev.bind hs (evT c1 (Ev.bind h3 (evF c3 (Ev.now _)))))))
  · refine ⟨n, xs, cl, ?_⟩
    simp only [spec_DrawNextClaims.f]
    exact evS ho (Ev.bind h1 (Ev.bind h2 (Ev.bind hs (evF c1 (Ev.now _)))))
theorem okB_own (l : List S44) (rows : List (List Int)) (b : Nat) : laws_FnNextClaims.okB l rows (b : Int) (cmL (own b)) = true := by
  unfold laws_FnNextClaims.okB
  rw [Bool.and_eq_true, Bool.or_eq_true, decide_eq_true_eq, decide_eq_true_eq]
  exact ⟨rfl, .inl ⟨show (-1 : Int) < 0 by decide, rfl, rfl⟩⟩
theorem okB_hear {m : Nat} {l : List S44} (hV : Vd m l) {rows : List (List Int)} (hl : rows.length = m) (ha : rows.all okRow = true) {b o j : Nat} {x : Cb} (hbm : b < m) (hx : (l.map cbOf)[j]? = some x) (ho : other x b = some o) :
    laws_FnNextClaims.okB l rows (b : Int) (cmL (hear (rows.map cmOf) o j x.c)) = true := by
  have hm8 := hV.m8
  have hjl : j < l.length := by
    have := (List.getElem?_eq_some_iff.1 hx).1
    simpa using this
  obtain ⟨p, q, c, hr, hp, hq, hne, hc1, hc2, hat, _⟩ := hV.map j hjl
  rw [hat] at hx
  obtain rfl := Option.some.inj hx
  have he := other_some ho
  have hom : o < m := by rcases he with ⟨h1, h2⟩ | ⟨h1, h2⟩ <;> (simp only at h1 h2; omega)
  have hs : p + q = o + b := by rcases he with ⟨h1, h2⟩ | ⟨h1, h2⟩ <;> (simp only at h1 h2; omega)
  have hG := (rows_gd hl ha).d0 o hom
  have hro : rd_L5 rows (o : Int) = cmL (getC (rows.map cmOf) o) := by
    have h := mapcm_rd (rows.map cmOf) o (by simpa [hl] using hom)
    rw [rows_back ha] at h
    exact h
  generalize getC (rows.map cmOf) o = G at hG hro
  have e0 : rd (cmL (hear (rows.map cmOf) o j c)) 0 = (hear (rows.map cmOf) o j c).r := rfl
  unfold laws_FnNextClaims.okB
  rw [Bool.and_eq_true, Bool.or_eq_true, decide_eq_true_eq, decide_eq_true_eq, decide_eq_true_eq]
  have r2 : rd (cmL (hear (rows.map cmOf) o j c)) 2 = (o : Int) := rfl
  have r3 : rd (cmL (hear (rows.map cmOf) o j c)) 3 = (j : Int) := rfl
  have r0 : rd (cmL (hear (rows.map cmOf) o j c)) 0 = (getC (rows.map cmOf) o).r := rfl
  have r1 : rd (cmL (hear (rows.map cmOf) o j c)) 1 = (getC (rows.map cmOf) o).d + c := rfl
  dsimp only
  rw [r0, r1, r2, r3, hr, hro]
  have g0 : rd (cmL G) 0 = G.r := rfl
  have g1 : rd (cmL G) 1 = G.d := rfl
  have hgg : getC (rows.map cmOf) o = cmOf (rd_L5 rows (o : Int)) := by
    have := mapcm_rd (rows.map cmOf) o (by simpa [hl] using hom)
    rw [rows_back ha] at this
    rw [this]
    rfl
  have hg2 : cmOf (cmL G) = G := rfl
  rw [hgg, hro, hg2, g0, g1]
  clear e0 r0 r1 r2 r3 hr hro hgg hg2 g0 g1 hat ho he hne
  dsimp only
  refine ⟨rfl, .inr ⟨⟨⟨by omega, by omega⟩, by omega, by omega⟩, rfl, ?_, rfl, ?_⟩⟩
  · rw [w64 (x := (p : Int) + (q : Int)) (by omega) (by omega), w64 (by omega) (by omega)]
    omega
  · rw [w64 (by omega) (by omega)]
theorem okA_next (n : Int) (l : List S44) (rows : List (List Int)) : laws_FnNextClaims.okA l rows (nextR n l rows) = true := by
  unfold laws_FnNextClaims.okA
  rw [List.all_eq_true]
  intro b hb
  rw [List.mem_range] at hb
  unfold nextR at hb ⊢
  by_cases hc : cv n l = true ∧ (rows.length : Int) = n ∧ rows.all okRow = true
  · rw [if_pos hc] at hb ⊢
    obtain ⟨m, rfl, hV⟩ := cv_elim hc.1
    rw [Int.toNat_natCast, stC_len] at hb
    rw [Int.toNat_natCast, stC_rd m _ b hb]
    have hl : rows.length = m := by have := hc.2.1; omega
    obtain ⟨h1, _, _⟩ := next_spec (l.map cbOf) (rows.map cmOf) b
    rcases h1 with h1 | ⟨j, x, o, hx, ho, h1⟩
    · rw [h1]; exact okB_own l rows b
    · rw [h1]; exact okB_hear hV hl hc.2.2 hb hx ho
  · rw [if_neg hc] at hb
    simp at hb
theorem q_FnNextClaims : laws_FnNextClaims.Pure := by
  intro l hl1 hl2 hb
  refine Ev.rounds ?_
  simp only [laws_FnNextClaims.f]
  by_cases h0 : (l.length : Int) > 1048576
  · exact evT h0 (Ev.now _)
  obtain ⟨n, xs, cl, hd⟩ := drawNext_ev l hb
  have hi := implNext_ev n xs cl
  have hs := specNext_ev n xs cl
  have hok := okA_next n xs cl
  have hF : (nextR n xs cl).length ≤ 8 ∧ ∀ c ∈ nextR n xs cl, c.length ≤ 4 := by
    unfold nextR
    split
    · rename_i h
      obtain ⟨m, rfl, hV⟩ := cv_elim h.1
      have := hV.m8
      rw [Int.toNat_natCast]
      refine ⟨by rw [stC_len]; omega, fun c hc => ?_⟩
      obtain ⟨j, _, rfl⟩ := List.mem_map.1 hc
      exact Nat.le_refl 4
    · exact ⟨by simp, fun c hc => by simp at hc⟩
  have hq := wnPairs_ev (nextR n xs cl) (by omega) (fun c hc => by have := hF.2 c hc; omega)
  exact evF h0 (Ev.bind hd (Ev.bind hi (Ev.bind hs (Ev.bind hq (evT ⟨rfl, hok⟩ (Ev.now _))))))

end Go.Proofs.Ytegnghbgkiddoaa.Q
