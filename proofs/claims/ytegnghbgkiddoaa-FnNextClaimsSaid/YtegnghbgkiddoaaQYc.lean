/- Plain lemmas on what the printed functions compute (seat Ytegnghbgkiddoaa, module QYc). Conditions: each lemma's own. -/
import Derived.Test.YtegnghbgkiddoaaQXa
import Derived.Test.YtegnghbgkiddoaaQXm
import Derived.Test.YtegnghbgkiddoaaPA0
import Derived.Test.YtegnghbgkiddoaaPA17
import Derived.Test.YtegnghbgkiddoaaPA27
import Derived.Test.YtegnghbgkiddoaaPA28
import Derived.Test.YtegnghbgkiddoaaPA3
import Derived.Test.YtegnghbgkiddoaaPA30
import Derived.Test.YtegnghbgkiddoaaPA32
import Derived.Test.YtegnghbgkiddoaaPA4
set_option linter.unusedVariables false
set_option linter.unusedSimpArgs false
namespace Go.Proofs.Ytegnghbgkiddoaa.Q
open Go Go.RowKit Go.Proofs.Ytegnghbgkiddoaa.PA Go.Proofs.YtegnghbgkiddoaaW.PrintWords Go.Proofs.YtegnghbgkiddoaaW.PrintLast

/-! ### cables: what the printed functions compute -/
def cbOf (x : S44) : Cb := ⟨x.f0.toNat, x.f1.toNat, x.f2⟩
def cv (n : Int) (l : List S44) : Bool := decide (1 ≤ n ∧ n ≤ 8) && (decide ((l.length : Int) ≤ 20) && l.all (fun x => decide (0 ≤ x.f0 ∧ x.f0 ≤ n - 1) && (decide (0 ≤ x.f1 ∧ x.f1 ≤ n - 1) && (!(x.f0 == x.f1) && decide (1 ≤ x.f2 ∧ x.f2 ≤ 99)))))
structure Vd (m : Nat) (l : List S44) : Prop where
  m1 : 1 ≤ m
  m8 : m ≤ 8
  len : l.length ≤ 20
  ok : ∀ (i : Nat) (h : i < l.length), ∃ a b : Nat, ∃ c : Int, l[i] = ⟨(a : Int), (b : Int), c⟩ ∧ a < m ∧ b < m ∧ a ≠ b ∧ 1 ≤ c ∧ c ≤ 99
theorem cv_elim {n : Int} {l : List S44} (h : cv n l = true) : ∃ m : Nat, n = (m : Int) ∧ Vd m l := by
  simp only [cv, Bool.and_eq_true, decide_eq_true_eq, List.all_eq_true, Bool.not_eq_true', beq_eq_false_iff_ne, ne_eq] at h
  obtain ⟨h1, h2, h3⟩ := h
  refine ⟨n.toNat, by omega, by omega, by omega, by omega, fun i hi => ?_⟩
  obtain ⟨⟨a1, a2⟩, ⟨b1, b2⟩, hne, c1, c2⟩ := h3 _ (List.getElem_mem hi)
  generalize l[i] = x at *
  obtain ⟨p, q, c⟩ := x
  simp only at a1 a2 b1 b2 hne c1 c2
  exact ⟨p.toNat, q.toNat, c, by rw [Int.toNat_of_nonneg a1, Int.toNat_of_nonneg b1], by omega, by omega, by omega, c1, c2⟩
theorem Vd.map {m : Nat} {l : List S44} (h : Vd m l) (i : Nat) (hi : i < l.length) : ∃ a b : Nat, ∃ c : Int, rd_T44 l (i : Int) = ⟨(a : Int), (b : Int), c⟩ ∧ a < m ∧ b < m ∧ a ≠ b ∧ 1 ≤ c ∧ c ≤ 99 ∧ (l.map cbOf)[i]? = some ⟨a, b, c⟩ ∧ (l.map cbOf).drop i = ⟨a, b, c⟩ :: (l.map cbOf).drop (i + 1) := by
  obtain ⟨a, b, c, e, h1⟩ := h.ok i hi
  have e2 : cbOf l[i] = ⟨a, b, c⟩ := by rw [e]; simp [cbOf]
  refine ⟨a, b, c, ?_, h1.1, h1.2.1, h1.2.2.1, h1.2.2.2.1, h1.2.2.2.2, ?_, ?_⟩
  · simp [rd_T44, List.getD_eq_getElem?_getD, hi, e]
  · simp [hi, e2]
  · rw [List.drop_eq_getElem_cons (by simpa using hi)]
    simp [e2]
theorem Vd.okc {m : Nat} {l : List S44} (h : Vd m l) : Okc m (l.map cbOf) := by
  intro x hx
  obtain ⟨y, hy, rfl⟩ := List.mem_map.1 hx
  obtain ⟨i, hi, rfl⟩ := List.getElem_of_mem hy
  obtain ⟨a, b, c, e, h1⟩ := h.ok i hi
  rw [e]
  simpa [cbOf] using h1
theorem implCables_eq (n : Int) (l : List S44) : impl_CablesValid.f n l = some (cv n l) := rfl
theorem specCables_l0 (n : Int) (hn : 1 ≤ n) (hn2 : n ≤ 8) (l : List S44) (hl : l.length ≤ 1000) : ∀ (d i : Nat), i + d = l.length →
    Ev (fun k => spec_CablesValid.l0 k n l (i : Int)) ((l.drop i).all (fun x => decide (0 ≤ x.f0 ∧ x.f0 ≤ n - 1) && (decide (0 ≤ x.f1 ∧ x.f1 ≤ n - 1) && (!(x.f0 == x.f1) && decide (1 ≤ x.f2 ∧ x.f2 ≤ 99))))) := by
  intro d
  induction d with
  | zero =>
    intro i hi
    refine Ev.step (fun k => by rw [spec_CablesValid.l0]) ?_
    refine evF (by omega) (evE (Ev.now _) ?_)
    rw [List.drop_of_length_le (by omega)]; rfl
  | succ d ih =>
    intro i hi
    have e : wrap64 ((i : Int) + 1) = ((i + 1 : Nat) : Int) := by rw [w64 (by omega) (by omega)]; omega
    have hil : i < l.length := by omega
    have hx : rd_T44 l (i : Int) = l[i] := by simp [rd_T44, List.getD_eq_getElem?_getD, hil]
    refine Ev.step (fun k => by rw [spec_CablesValid.l0]) ?_
    refine evT (by omega) (evT (by omega) ?_)
    rw [hx, w64 (x := n - 1) (by omega) (by omega), List.drop_eq_getElem_cons hil, List.all_cons, e]
    refine evS (l1In_eq _ _ _) ?_
    by_cases c1 : 0 ≤ l[i].f0 ∧ l[i].f0 ≤ n - 1
    · rw [decide_eq_true c1]
      refine evT rfl (evS (l1In_eq _ _ _) ?_)
      by_cases c2 : 0 ≤ l[i].f1 ∧ l[i].f1 ≤ n - 1
      · rw [decide_eq_true c2]
        refine evT rfl ?_
        by_cases c3 : l[i].f0 = l[i].f1
        · refine evT c3 (evE (Ev.now _) ?_)
          simp [c3]
        · refine evF c3 (evS (l1In_eq _ _ _) ?_)
          by_cases c4 : 1 ≤ l[i].f2 ∧ l[i].f2 ≤ 99
          · rw [decide_eq_true c4]
            refine evT rfl (evE (ih (i + 1) (by omega)) ?_)
            simp [c3]
          · rw [decide_eq_false c4]
            refine evF (by simp) (evE (Ev.now _) ?_)
            simp
      · rw [decide_eq_false c2]
        refine evF (by simp) (evE (Ev.now _) ?_)
        simp
    · rw [decide_eq_false c1]
      refine evF (by simp) (evE (Ev.now _) ?_)
      simp
theorem specCables_ev (n : Int) (l : List S44) : Ev (fun k => spec_CablesValid.f k n l) (cv n l) := by
  simp only [spec_CablesValid.f]
  refine evS (l1In_eq _ _ _) ?_
  by_cases c1 : 1 ≤ n ∧ n ≤ 8
  · rw [decide_eq_true c1]
    refine evT rfl ?_
    by_cases c2 : (l.length : Int) > 20
    · rw [decide_eq_true c2]
      refine Ev.step (fun k => by rw [spec_CablesValid.j0]) ?_
      refine evT rfl (evE (Ev.now _) ?_)
      unfold cv
      rw [decide_eq_false (show ¬ (l.length : Int) ≤ 20 by omega)]
      simp
    · rw [decide_eq_false c2]
      refine Ev.step (fun k => by rw [spec_CablesValid.j0]) ?_
      refine evF (by simp) (evE (specCables_l0 n c1.1 c1.2 l (by omega) l.length 0 (by omega)) ?_)
      unfold cv
      rw [decide_eq_true (show (l.length : Int) ≤ 20 by omega), decide_eq_true c1]
      simp
  · rw [decide_eq_false c1]
    refine evF (by simp) ?_
    refine Ev.step (fun k => by rw [spec_CablesValid.j0]) ?_
    refine evT rfl (evE (Ev.now _) ?_)
    unfold cv
    rw [decide_eq_false c1]
    simp
/-! ### the answers -/
theorem cv_intro {m : Nat} {l : List S44} (h : Vd m l) : cv (m : Int) l = true := by
  have h1 := h.m1
  have h8 := h.m8
  have h20 := h.len
  simp only [cv, Bool.and_eq_true, decide_eq_true_eq, List.all_eq_true, Bool.not_eq_true', beq_eq_false_iff_ne, ne_eq]
  refine ⟨by omega, by omega, fun x hx => ?_⟩
  obtain ⟨i, hi, rfl⟩ := List.getElem_of_mem hx
  obtain ⟨a, b, c, e, ha, hb, hne, hc1, hc2⟩ := h.ok i hi
  rw [e]
  dsimp only
  omega
theorem cv_false {n : Int} {l : List S44} (h : ¬ cv n l = true) : cv n l = false := by simpa using h

/-! ### claims as rows -/
def cmL (x : Cm) : List Int := [x.r, x.d, x.o, x.i]
def cmOf (l : List Int) : Cm := ⟨l.getD 0 0, l.getD 1 0, l.getD 2 0, l.getD 3 0⟩
def okRow (c : List Int) : Bool := decide (c.length = 4) && decide (0 ≤ c.getD 1 0 ∧ c.getD 1 0 ≤ 10000)
theorem okRow_of {c : List Int} (h : okRow c = true) : c = cmL (cmOf c) ∧ 0 ≤ (cmOf c).d ∧ (cmOf c).d ≤ 10000 := by
  simp only [okRow, Bool.and_eq_true, decide_eq_true_eq] at h
  match c, h.1 with
  | [a, b, d, e], _ => exact ⟨rfl, h.2⟩
theorem okRow_cmL (x : Cm) (h : 0 ≤ x.d ∧ x.d ≤ 10000) : okRow (cmL x) = true := by
  simp [okRow, cmL, h]
theorem less_step {a b : List Int} (ha : a.length = 4) (hb : b.length = 4) (i : Nat) (hi : i < 4) {v : Bool} (h : rd a (i : Int) = rd b (i : Int) → Ev (fun k => spec_l7Less.l0 k a b ((i + 1 : Nat) : Int)) v) (h2 : rd a (i : Int) ≠ rd b (i : Int) → v = decide (rd a (i : Int) < rd b (i : Int))) :
    Ev (fun k => spec_l7Less.l0 k a b (i : Int)) v := by
  refine Ev.step (fun k => by rw [spec_l7Less.l0]) ?_
  refine evT (by omega) (evT (by omega) (evT (by omega) (evT (by omega) ?_)))
  by_cases e : rd a (i : Int) = rd b (i : Int)
  · refine evT e ?_
    rw [show wrap64 ((i : Int) + 1) = ((i + 1 : Nat) : Int) by rw [w64 (by omega) (by omega)]; omega]
    exact h e
  · exact evF e (evE (Ev.now _) (h2 e).symm)
theorem less_ev (x y : Cm) : Ev (fun k => spec_l7Less.f k (cmL x) (cmL y)) (decide (ltC x y)) := by
  simp only [spec_l7Less.f]
  refine less_step rfl rfl 0 (by omega) (fun e0 => less_step rfl rfl 1 (by omega) (fun e1 => less_step rfl rfl 2 (by omega) (fun e2 => less_step rfl rfl 3 (by omega) (fun e3 => ?_) (fun e3 => ?_)) (fun e2 => ?_)) (fun e1 => ?_)) (fun e0 => ?_)
  · change x.r = y.r at e0; change x.d = y.d at e1; change x.o = y.o at e2; change x.i = y.i at e3
    refine Ev.step (fun k => by rw [spec_l7Less.l0]) ?_
    refine evF (by omega) (evE (Ev.now _) (decide_eq_false ?_).symm)
    unfold ltC; omega
  · change x.r = y.r at e0; change x.d = y.d at e1; change x.o = y.o at e2; change x.i ≠ y.i at e3
    show _ = decide (x.i < y.i)
    refine decide_eq_decide.2 ?_
    unfold ltC; omega
  · change x.r = y.r at e0; change x.d = y.d at e1; change x.o ≠ y.o at e2
    show _ = decide (x.o < y.o)
    refine decide_eq_decide.2 ?_
    unfold ltC; omega
  · change x.r = y.r at e0; change x.d ≠ y.d at e1
    show _ = decide (x.d < y.d)
    refine decide_eq_decide.2 ?_
    unfold ltC; omega
  · change x.r ≠ y.r at e0
    show _ = decide (x.r < y.r)
    refine decide_eq_decide.2 ?_
    unfold ltC; omega
theorem compareInt_eq (x y : Int) : cmp_Compare_int.f x y = some (if x < y then -1 else if x > y then 1 else 0) := by
  unfold cmp_Compare_int.f cmp_isNaN_int.f
  simp only [Option.bind_some, bne_self_eq_false]
  rw [if_neg (by decide), if_neg (by decide)]
  split
  · rfl
  · split <;> rfl
theorem cmp_step {a b : List Int} (ha : a.length = 4) (hb : b.length = 4) (i : Nat) (hi : i < 4) {P : Int → Prop} (h : rd a (i : Int) = rd b (i : Int) → ∃ v, Ev (fun k => slices_Compare_int_int.l0 k a b a (a.length : Int) ((i + 1 : Nat) : Int)) v ∧ P v)
    (h1 : rd a (i : Int) < rd b (i : Int) → P (-1)) (h2 : rd b (i : Int) < rd a (i : Int) → P 1) :
    ∃ v, Ev (fun k => slices_Compare_int_int.l0 k a b a (a.length : Int) (i : Int)) v ∧ P v := by
  have key : ∀ {v : Int}, Ev (fun k => (cmp_Compare_int.f (rd a (i : Int)) (rd b (i : Int))).bind fun t => if t = 0 then slices_Compare_int_int.l0 k a b a (a.length : Int) (wrap64 ((i : Int) + 1)) else some t) v → Ev (fun k => slices_Compare_int_int.l0 k a b a (a.length : Int) (i : Int)) v := by
    intro v hv
    refine Ev.step (fun k => by rw [slices_Compare_int_int.l0]) ?_
    exact evT (by omega) (evT (by omega) (evT (by omega) (evF (by omega) (evT (by omega) hv))))
  by_cases c1 : rd a (i : Int) < rd b (i : Int)
  · refine ⟨-1, key (evS (a := -1) (by rw [compareInt_eq, if_pos c1]) (evF (by omega) (Ev.now _))), h1 c1⟩
  · by_cases c2 : rd b (i : Int) < rd a (i : Int)
    · exact ⟨1, key (evS (a := 1) (by rw [compareInt_eq, if_neg c1, if_pos c2]) (evF (by omega) (Ev.now _))), h2 c2⟩
    · obtain ⟨v, hv, hp⟩ := h (by omega)
      refine ⟨v, key (evS (a := 0) (by rw [compareInt_eq, if_neg c1, if_neg (by omega)]) (evT rfl ?_)), hp⟩
      rw [show wrap64 ((i : Int) + 1) = ((i + 1 : Nat) : Int) by rw [w64 (by omega) (by omega)]; omega]
      exact hv
theorem compare_ev (x y : Cm) : ∃ v, Ev (fun k => slices_Compare_int_int.f k (cmL x) (cmL y)) v ∧ (v < 0 ↔ ltC x y) := by
  simp only [slices_Compare_int_int.f]
  refine cmp_step (P := fun v => v < 0 ↔ ltC x y) rfl rfl 0 (by omega) (fun e0 => cmp_step (P := fun v => v < 0 ↔ ltC x y) rfl rfl 1 (by omega) (fun e1 => cmp_step (P := fun v => v < 0 ↔ ltC x y) rfl rfl 2 (by omega) (fun e2 => cmp_step (P := fun v => v < 0 ↔ ltC x y) rfl rfl 3 (by omega) (fun e3 => ?_) (fun e3 => ?_) (fun e3 => ?_)) (fun e2 => ?_) (fun e2 => ?_)) (fun e1 => ?_) (fun e1 => ?_)) (fun e0 => ?_) (fun e0 => ?_)
  · change x.r = y.r at e0; change x.d = y.d at e1; change x.o = y.o at e2; change x.i = y.i at e3
    refine ⟨0, Ev.step (fun k => by rw [slices_Compare_int_int.l0]) ?_, by unfold ltC; omega⟩
    exact evF (by show ¬ ((4 : Nat) : Int) < ((4 : Nat) : Int); omega) (evF (by show ¬ ((4 : Nat) : Int) < ((4 : Nat) : Int); omega) (Ev.now _))
  · change x.r = y.r at e0; change x.d = y.d at e1; change x.o = y.o at e2; change x.i < y.i at e3; unfold ltC; omega
  · change x.r = y.r at e0; change x.d = y.d at e1; change x.o = y.o at e2; change y.i < x.i at e3; unfold ltC; omega
  · change x.r = y.r at e0; change x.d = y.d at e1; change x.o < y.o at e2; unfold ltC; omega
  · change x.r = y.r at e0; change x.d = y.d at e1; change y.o < x.o at e2; unfold ltC; omega
  · change x.r = y.r at e0; change x.d < y.d at e1; unfold ltC; omega
  · change x.r = y.r at e0; change y.d < x.d at e1; unfold ltC; omega
  · change x.r < y.r at e0; unfold ltC; omega
  · change y.r < x.r at e0; unfold ltC; omega

/-! ### the state of the rounds -/
def stC (m : Nat) (f : Nat → Cm) : List (List Int) := (List.range m).map fun j => cmL (f j)
theorem stC_len (m : Nat) (f : Nat → Cm) : (stC m f).length = m := by simp [stC]
theorem stC_rd (m : Nat) (f : Nat → Cm) (a : Nat) (h : a < m) : rd_L5 (stC m f) (a : Int) = cmL (f a) := by
  simp [rd_L5, stC, List.getD_eq_getElem?_getD, h]
theorem stC_set (m : Nat) (f : Nat → Cm) (a : Nat) (v : Cm) : (stC m f).set a (cmL v) = stC m (fun j => if j = a then v else f j) := by
  refine List.ext_getElem? fun j => ?_
  unfold stC
  rw [List.getElem?_set]
  by_cases e : a = j
  · subst e
    by_cases h : a < m <;> simp [h]
  · rw [if_neg e, List.getElem?_map, List.getElem?_map]
    by_cases h : j < m
    · simp [h, show j ≠ a from fun h => e h.symm]
    · simp [h]
theorem stC_congr {m : Nat} {f g : Nat → Cm} (h : ∀ j, j < m → f j = g j) : stC m f = stC m g := by
  unfold stC
  exact List.map_congr_left fun j hj => by rw [h j (List.mem_range.1 hj)]
theorem mapcm_rd (cl : List Cm) (o : Nat) (h : o < cl.length) : rd_L5 (cl.map cmL) (o : Int) = cmL (getC cl o) := by
  simp [rd_L5, getC, List.getD_eq_getElem?_getD, h]

/-! ### the first claims -/
def rows0 (n : Int) : List (List Int) := if 1 ≤ n ∧ n ≤ 8 then stC n.toNat own else []
theorem stC_snoc (i : Nat) : stC i own ++ [([(i : Int), 0, (-1), (-1)] : List Int)] = stC (i + 1) own := by
  unfold stC
  rw [List.range_succ, List.map_append]
  rfl
theorem specFirst_l0 (m : Nat) (hm : m ≤ 8) : ∀ d i : Nat, i + d = m → Ev (fun k => spec_FirstClaims.l0 k (m : Int) (stC i own) (i : Int)) (stC m own) := by
  intro d
  induction d with
  | zero =>
    intro i hi
    obtain rfl : i = m := by omega
    refine Ev.step (fun k => by rw [spec_FirstClaims.l0]) ?_
    exact evF (by omega) (Ev.now _)
  | succ d ih =>
    intro i hi
    refine Ev.step (fun k => by rw [spec_FirstClaims.l0]) ?_
    refine evT (by omega) (evT (by omega) (evT (by rw [stC_len]; omega) ?_))
    rw [stC_snoc, show wrap64 ((i : Int) + 1) = ((i + 1 : Nat) : Int) by rw [w64 (by omega) (by omega)]; omega]
    exact ih (i + 1) (by omega)
theorem specFirst_ev (n : Int) : Ev (fun k => spec_FirstClaims.f k n) (rows0 n) := by
  simp only [spec_FirstClaims.f]
  by_cases h : 1 ≤ n ∧ n ≤ 8
  · obtain ⟨m, rfl⟩ := Int.eq_ofNat_of_zero_le (show 0 ≤ n by omega)
    unfold rows0
    rw [if_pos h, Int.toNat_natCast]
    exact specFirst_l0 m (by omega) m 0 (by omega)
  · unfold rows0
    rw [if_neg h]
    refine Ev.step (fun k => by rw [spec_FirstClaims.l0]) ?_
    by_cases h1 : 0 < n
    · exact evT h1 (evF (by omega) (Ev.now _))
    · exact evF h1 (Ev.now _)
theorem implFirst_l0 (m : Nat) (hm : m ≤ 8) : ∀ d i : Nat, i + d = m → Ev (fun k => impl_FirstClaims.l0 k (stC i own) (m : Int) (i : Int)) (stC m own) := by
  intro d
  induction d with
  | zero =>
    intro i hi
    obtain rfl : i = m := by omega
    refine Ev.step (fun k => by rw [impl_FirstClaims.l0]) ?_
    exact evF (by omega) (Ev.now _)
  | succ d ih =>
    intro i hi
    refine Ev.step (fun k => by rw [impl_FirstClaims.l0]) ?_
    refine evT (by omega) (evT (by rw [stC_len]; omega) ?_)
    rw [stC_snoc, show wrap64 ((i : Int) + 1) = ((i + 1 : Nat) : Int) by rw [w64 (by omega) (by omega)]; omega]
    exact ih (i + 1) (by omega)
theorem implFirst_ev (n : Int) : Ev (fun k => impl_FirstClaims.f k n) (rows0 n) := by
  simp only [impl_FirstClaims.f]
  refine evS (within_eq _ _ _) ?_
  by_cases h : 1 ≤ n ∧ n ≤ 8
  · obtain ⟨m, rfl⟩ := Int.eq_ofNat_of_zero_le (show 0 ≤ n by omega)
    unfold rows0
    rw [if_pos h, Int.toNat_natCast]
    exact evT (decide_eq_true h) (implFirst_l0 m (by omega) m 0 (by omega))
  · unfold rows0
    rw [if_neg h]
    exact evF (by simp only [decide_eq_true_eq]; exact h) (Ev.now _)

/-! ### the next claims -/
structure Gd (m : Nat) (cl : List Cm) : Prop where
  len : cl.length = m
  d0 : ∀ o, o < m → 0 ≤ (getC cl o).d ∧ (getC cl o).d ≤ 10000
theorem hear_row {m : Nat} {cl : List Cm} (h : Gd m cl) {o i : Nat} (ho : o < m) {c : Int} (hc : 1 ≤ c ∧ c ≤ 99) :
    ([rd (rd_L5 (cl.map cmL) (o : Int)) 0, wrap64 ((rd (rd_L5 (cl.map cmL) (o : Int)) 1) + c), (o : Int), (i : Int)] : List Int) = cmL (hear cl o i c) := by
  rw [mapcm_rd cl o (by rw [h.len]; exact ho)]
  have := h.d0 o ho
  have e : rd (cmL (getC cl o)) 1 = (getC cl o).d := rfl
  rw [e, w64 (by omega) (by omega)]
  rfl
theorem hearS_some {cl : List Cm} {b i o : Nat} {x : Cb} (h : other x b = some o) (cur : Cm) : hearS cl b i x cur = if ltC (hear cl o i x.c) cur then hear cl o i x.c else cur := by
  unfold hearS
  rw [h]
theorem hearS_none {cl : List Cm} {b i : Nat} {x : Cb} (h : other x b = none) (cur : Cm) : hearS cl b i x cur = cur := by
  unfold hearS
  rw [h]
theorem row_len (x : Cm) : ((cmL x).length : Int) = 4 := rfl
theorem specNext_l2 {m : Nat} {l : List S44} (hV : Vd m l) {cl : List Cm} (hG : Gd m cl) {b : Nat} (hb : b < m) {R : List (List Int)} : ∀ (d i : Nat) (f : Nat → Cm), i + d = l.length →
    Ev (fun k => spec_NextClaims.l1 k (m : Int) l (cl.map cmL) (stC m (fun j => if j = b then hearL cl b i ((l.map cbOf).drop i) (f b) else f j)) (wrap64 ((b : Int) + 1))) R →
    Ev (fun k => spec_NextClaims.l2 k (m : Int) l (cl.map cmL) (stC m f) (b : Int) (i : Int)) R := by
  have hlen := hV.len
  have hm8 := hV.m8
  have hml : ((cl.map cmL).length : Int) = m := by rw [List.length_map, hG.len]
  intro d
  induction d with
  | zero =>
    intro i f hi hn
    refine Ev.step (fun k => by rw [spec_NextClaims.l2]) ?_
    refine evF (by omega) ?_
    have e : stC m (fun j => if j = b then hearL cl b i ((l.map cbOf).drop i) (f b) else f j) = stC m f := by
      rw [List.drop_of_length_le (by simp; omega)]
      exact stC_congr fun j _ => by split <;> simp_all [hearL]
    rwa [e] at hn
  | succ d ih =>
    intro i f hi hn
    have e : wrap64 ((i : Int) + 1) = ((i + 1 : Nat) : Int) := by rw [w64 (by omega) (by omega)]; omega
    obtain ⟨a, q, c, hx, ha, hq, hne, c1, c2, hat, hdr⟩ := hV.map i (by omega)
    rw [hdr] at hn
    refine Ev.step (fun k => by rw [spec_NextClaims.l2]) ?_
    refine evT (by omega) (evT (by omega) ?_)
    rw [hx, e]
    dsimp only
    -- what is heard of o
    have go : ∀ o : Nat, o < m → other (⟨a, q, c⟩ : Cb) b = some o → spec_l7Other.f (a : Int) (q : Int) c (b : Int) = some (o : Int) → Ev (fun k => (spec_l7Other.f (a : Int) (q : Int) c (b : Int)).bind fun t649 => (if t649 < 0 then (spec_NextClaims.l2 k (m : Int) l (cl.map cmL) (stC m f) (b : Int) ((i + 1 : Nat) : Int)) else (if 0 ≤ t649 then (if t649 < ((cl.map cmL).length : Int) then (if 0 < ((rd_L5 (cl.map cmL) t649).length : Int) then (if 1 < ((rd_L5 (cl.map cmL) t649).length : Int) then ((some (([rd (rd_L5 (cl.map cmL) t649) 0, wrap64 ((rd (rd_L5 (cl.map cmL) t649) 1) + c), t649, (i : Int)] : List Int) : List Int)).bind fun y655 => (if 0 ≤ (b : Int) then (if (b : Int) < ((stC m f).length : Int) then ((spec_l7Less.f k y655 (rd_L5 (stC m f) (b : Int))).bind fun t659 => (if t659 = true then (spec_NextClaims.l2 k (m : Int) l (cl.map cmL) ((stC m f).set (b : Int).toNat y655) (b : Int) ((i + 1 : Nat) : Int)) else (spec_NextClaims.l2 k (m : Int) l (cl.map cmL) (stC m f) (b : Int) ((i + 1 : Nat) : Int)))) else (none)) else (none))) else (none)) else (none)) else (none)) else (none)))) R := by
      intro o ho hoth hsp
      refine evS hsp (evF (by omega) (evT (by omega) (evT (by omega) ?_)))
      rw [hear_row hG ho ⟨c1, c2⟩, mapcm_rd cl o (by rw [hG.len]; exact ho), stC_rd m f b hb]
      refine evT (by rw [row_len]; omega) (evT (by rw [row_len]; omega) (evS rfl (evT (by omega) (evT (by rw [stC_len]; omega) (Ev.bind (less_ev _ _) ?_)))))
      by_cases hc : ltC (hear cl o i c) (f b)
      · refine evT (decide_eq_true hc) ?_
        rw [Int.toNat_natCast, stC_set]
        refine ih (i + 1) _ (by omega) ?_
        have ee : stC m (fun j => if j = b then hearL cl b (i + 1) ((l.map cbOf).drop (i + 1)) (if b = b then hear cl o i c else f b) else if j = b then hear cl o i c else f j) = stC m (fun j => if j = b then hearL cl b i (⟨a, q, c⟩ :: (l.map cbOf).drop (i + 1)) (f b) else f j) := by
          refine stC_congr fun j _ => ?_
          by_cases hj : j = b
          · rw [if_pos hj, if_pos hj, if_pos rfl]
            show _ = hearL cl b (i + 1) _ (hearS cl b i ⟨a, q, c⟩ (f b))
            rw [hearS_some hoth, if_pos hc]
          · rw [if_neg hj, if_neg hj, if_neg hj]
        rw [ee]
        exact hn
      · refine evF (by simp only [decide_eq_true_eq]; exact hc) ?_
        refine ih (i + 1) f (by omega) ?_
        have ee : stC m (fun j => if j = b then hearL cl b (i + 1) ((l.map cbOf).drop (i + 1)) (f b) else f j) = stC m (fun j => if j = b then hearL cl b i (⟨a, q, c⟩ :: (l.map cbOf).drop (i + 1)) (f b) else f j) := by
          refine stC_congr fun j _ => ?_
          by_cases hj : j = b
          · rw [if_pos hj, if_pos hj]
            show _ = hearL cl b (i + 1) _ (hearS cl b i ⟨a, q, c⟩ (f b))
            rw [hearS_some hoth, if_neg hc]
          · rw [if_neg hj, if_neg hj]
        rw [ee]
        exact hn
    by_cases h1 : b = a
    · exact go q hq (by simp [other, h1]) (by unfold spec_l7Other.f; rw [if_pos (by omega)])
    · by_cases h2 : b = q
      · exact go a ha (by simp [other, h2, show q ≠ a from fun h => hne h.symm]) (by unfold spec_l7Other.f; rw [if_neg (by omega), if_pos (by omega)])
      · refine evS (a := -1) (by unfold spec_l7Other.f; rw [if_neg (by omega), if_neg (by omega)]) (evT (by omega) ?_)
        refine ih (i + 1) f (by omega) ?_
        have ee : stC m (fun j => if j = b then hearL cl b (i + 1) ((l.map cbOf).drop (i + 1)) (f b) else f j) = stC m (fun j => if j = b then hearL cl b i (⟨a, q, c⟩ :: (l.map cbOf).drop (i + 1)) (f b) else f j) := by
          refine stC_congr fun j _ => ?_
          by_cases hj : j = b
          · rw [if_pos hj, if_pos hj]
            show _ = hearL cl b (i + 1) _ (hearS cl b i ⟨a, q, c⟩ (f b))
            rw [hearS_none (by simp [other, h1, h2])]
          · rw [if_neg hj, if_neg hj]
        rw [ee]
        exact hn
theorem specNext_l1 {m : Nat} {l : List S44} (hV : Vd m l) {cl : List Cm} (hG : Gd m cl) : ∀ (d b : Nat), b + d = m →
    Ev (fun k => spec_NextClaims.l1 k (m : Int) l (cl.map cmL) (stC m (fun j => if j < b then nextC (l.map cbOf) cl j else own j)) (b : Int)) (stC m (nextC (l.map cbOf) cl)) := by
  have hm8 := hV.m8
  intro d
  induction d with
  | zero =>
    intro b hb
    refine Ev.step (fun k => by rw [spec_NextClaims.l1]) ?_
    refine evF (by omega) (evE (Ev.now _) (stC_congr fun j hj => by rw [if_pos (by omega)]))
  | succ d ih =>
    intro b hb
    refine Ev.step (fun k => by rw [spec_NextClaims.l1]) ?_
    refine evT (by omega) ?_
    refine specNext_l2 hV hG (b := b) (by omega) l.length 0 _ (by omega) ?_
    rw [show wrap64 ((b : Int) + 1) = ((b + 1 : Nat) : Int) by rw [w64 (by omega) (by omega)]; omega]
    have ee : stC m (fun j => if j = b then hearL cl b 0 ((l.map cbOf).drop 0) (if b < b then nextC (l.map cbOf) cl b else own b) else if j < b then nextC (l.map cbOf) cl j else own j) = stC m (fun j => if j < b + 1 then nextC (l.map cbOf) cl j else own j) := by
      refine stC_congr fun j _ => ?_
      by_cases hj : j = b
      · subst hj
        rw [if_pos rfl, if_neg (Nat.lt_irrefl _), if_pos (by omega), List.drop_zero]
        rfl
      · rw [if_neg hj]
        by_cases h : j < b
        · rw [if_pos h, if_pos (by omega)]
        · rw [if_neg h, if_neg (by omega)]
    rw [ee]
    exact ih (b + 1) (by omega)
theorem hearL_snoc (cl : List Cm) (b : Nat) : ∀ (L : List Cb) (x : Cb) (i : Nat) (cur : Cm), hearL cl b i (L ++ [x]) cur = hearS cl b (i + L.length) x (hearL cl b i L cur) := by
  intro L
  induction L with
  | nil => intro x i cur; rfl
  | cons y L ih =>
    intro x i cur
    show hearL cl b (i + 1) (L ++ [x]) (hearS cl b i y cur) = _
    rw [ih, show i + 1 + L.length = i + (y :: L).length by simp; omega]
    rfl
theorem implNext_one {m : Nat} {l : List S44} (hV : Vd m l) {cl : List Cm} (hG : Gd m cl) {i a q : Nat} {c : Int} (hi : i < l.length) (hx : rd_T44 l (i : Int) = ⟨(a : Int), (q : Int), c⟩) (hne : a ≠ q) (hc : 1 ≤ c ∧ c ≤ 99) {t b o : Nat} (ht : t < 2)
    (hb : impl_NextClaims.sel (t : Int) (a : Int) (q : Int) = (b : Int)) (hbm : b < m) (hom : o < m) (ho : other (⟨a, q, c⟩ : Cb) b = some o) (f : Nat → Cm) {R : List (List Int)}
    (hn : Ev (fun k => impl_NextClaims.l1 k (cl.map cmL) (stC m (fun j => if j = b then hearS cl b i ⟨a, q, c⟩ (f b) else f j)) (i : Int) l (l.length : Int) (i : Int) ((t + 1 : Nat) : Int) (a : Int) (q : Int) c) R) :
    Ev (fun k => impl_NextClaims.l1 k (cl.map cmL) (stC m f) (i : Int) l (l.length : Int) (i : Int) (t : Int) (a : Int) (q : Int) c) R := by
  have hm8 := hV.m8
  have hml : ((cl.map cmL).length : Int) = m := by rw [List.length_map, hG.len]
  have hot : impl_Cable_other.f (a : Int) (q : Int) c (b : Int) = some ((o : Int), true) := by
    unfold impl_Cable_other.f
    unfold other at ho
    dsimp only at ho
    by_cases h1 : b = a
    · rw [if_pos h1] at ho
      obtain rfl := Option.some.inj ho
      rw [if_pos (by omega)]
    · rw [if_neg h1] at ho
      by_cases h2 : b = q
      · rw [if_pos h2] at ho
        obtain rfl := Option.some.inj ho
        rw [if_neg (by omega), if_pos (by omega)]
      · rw [if_neg h2] at ho
        cases ho
  refine Ev.step (fun k => by rw [impl_NextClaims.l1]) ?_
  refine evT (by omega) (evT (by omega) ?_)
  rw [hx]
  dsimp only
  rw [hb, show wrap64 ((t : Int) + 1) = ((t + 1 : Nat) : Int) by rw [w64 (by omega) (by omega)]; omega]
  refine evS hot ?_
  dsimp only
  refine evT (by omega) (evT (by omega) ?_)
  rw [hear_row hG hom hc, mapcm_rd cl o (by rw [hG.len]; exact hom), stC_rd m f b hbm]
  obtain ⟨v, hv, hlt⟩ := compare_ev (hear cl o i c) (f b)
  refine evT (by rw [row_len]; omega) (evT (by rw [row_len]; omega) (evS rfl (evT (by omega) (evT (by rw [stC_len]; omega) (Ev.bind hv ?_)))))
  by_cases h : v < 0
  · refine evT h ?_
    rw [Int.toNat_natCast, stC_set]
    have ee : stC m (fun j => if j = b then hearS cl b i ⟨a, q, c⟩ (f b) else f j) = stC m (fun j => if j = b then hear cl o i c else f j) := by
      refine stC_congr fun j _ => ?_
      rw [hearS_some ho, if_pos (hlt.1 h)]
    rw [ee] at hn
    exact hn
  · refine evF h ?_
    have ee : stC m (fun j => if j = b then hearS cl b i ⟨a, q, c⟩ (f b) else f j) = stC m f := by
      refine stC_congr fun j _ => ?_
      rw [hearS_some ho, if_neg (fun hc => h (hlt.2 hc))]
      split <;> simp_all
    rw [ee] at hn
    exact hn
theorem implNext_l0 {m : Nat} {l : List S44} (hV : Vd m l) {cl : List Cm} (hG : Gd m cl) : ∀ (d i : Nat), i + d = l.length →
    Ev (fun k => impl_NextClaims.l0 k (cl.map cmL) (stC m (fun j => hearL cl j 0 ((l.map cbOf).take i) (own j))) l (l.length : Int) (i : Int)) (stC m (nextC (l.map cbOf) cl)) := by
  have hlen := hV.len
  have hm8 := hV.m8
  intro d
  induction d with
  | zero =>
    intro i hi
    refine Ev.step (fun k => by rw [impl_NextClaims.l0]) ?_
    refine evF (by omega) (evE (Ev.now _) (stC_congr fun j hj => ?_))
    rw [List.take_of_length_le (by simp; omega)]
    rfl
  | succ d ih =>
    intro i hi
    obtain ⟨a, q, c, hx, ha, hq, hne, c1, c2, hat, hdr⟩ := hV.map i (by omega)
    refine Ev.step (fun k => by rw [impl_NextClaims.l0]) ?_
    refine evT (by omega) (evT (by omega) (evT (by omega) ?_))
    rw [hx]
    dsimp only
    have h0 : other (⟨a, q, c⟩ : Cb) a = some q := by simp [other]
    have h1 : other (⟨a, q, c⟩ : Cb) q = some a := by simp [other, show q ≠ a from fun h => hne h.symm]
    refine implNext_one hV hG (t := 0) (b := a) (o := q) (by omega) hx hne ⟨c1, c2⟩ (by omega) rfl ha hq h0 _ ?_
    refine implNext_one hV hG (t := 1) (b := q) (o := a) (by omega) hx hne ⟨c1, c2⟩ (by omega) rfl hq ha h1 _ ?_
    refine Ev.step (fun k => by rw [impl_NextClaims.l1]) ?_
    refine evF (by omega) ?_
    rw [show wrap64 ((i : Int) + 1) = ((i + 1 : Nat) : Int) by rw [w64 (by omega) (by omega)]; omega]
    have ee : stC m (fun j => if j = q then hearS cl q i ⟨a, q, c⟩ (if q = a then hearS cl a i ⟨a, q, c⟩ (hearL cl a 0 ((l.map cbOf).take i) (own a)) else hearL cl q 0 ((l.map cbOf).take i) (own q)) else if j = a then hearS cl a i ⟨a, q, c⟩ (hearL cl a 0 ((l.map cbOf).take i) (own a)) else hearL cl j 0 ((l.map cbOf).take i) (own j)) = stC m (fun j => hearL cl j 0 ((l.map cbOf).take (i + 1)) (own j)) := by
      refine stC_congr fun j _ => ?_
      have hil : i < (l.map cbOf).length := by simp; omega
      have htk : (l.map cbOf).take (i + 1) = (l.map cbOf).take i ++ [⟨a, q, c⟩] := by
        rw [List.take_succ_eq_append_getElem hil]
        rw [List.getElem?_eq_getElem hil] at hat
        rw [Option.some.inj hat]
      have htl : 0 + ((l.map cbOf).take i).length = i := by rw [List.length_take]; omega
      rw [htk, hearL_snoc, htl]
      by_cases hj : j = q
      · subst hj
        rw [if_pos rfl, if_neg (fun h => hne h.symm)]
      · rw [if_neg hj]
        by_cases hj2 : j = a
        · subst hj2
          rw [if_pos rfl]
        · rw [if_neg hj2, hearS_none (by simp [other, hj, hj2])]
    have hr := ih (i + 1) (by omega)
    rw [← ee] at hr
    exact hr

/-! ### the next claims, and the claims after some rounds: what both return -/
def nextR (n : Int) (l : List S44) (rows : List (List Int)) : List (List Int) :=
  if cv n l = true ∧ (rows.length : Int) = n ∧ rows.all okRow = true then stC n.toNat (nextC (l.map cbOf) (rows.map cmOf)) else []
theorem rows_back {rows : List (List Int)} (h : rows.all okRow = true) : (rows.map cmOf).map cmL = rows := by
  rw [List.map_map]
  conv => rhs; rw [← List.map_id rows]
  exact List.map_congr_left fun c hc => (okRow_of (List.all_eq_true.1 h c hc)).1.symm
theorem rows_gd {m : Nat} {rows : List (List Int)} (hl : rows.length = m) (h : rows.all okRow = true) : Gd m (rows.map cmOf) := by
  refine ⟨by simpa using hl, fun o ho => ?_⟩
  have e : getC (rows.map cmOf) o = cmOf (rows[o]'(by omega)) := by simp [getC, List.getD_eq_getElem?_getD, show o < rows.length by omega]
  rw [e]
  exact (okRow_of (List.all_eq_true.1 h _ (List.getElem_mem _))).2
theorem L5_at (rows : List (List Int)) (i : Nat) (h : i < rows.length) : rd_L5 rows (i : Int) = rows[i] := by
  simp [rd_L5, List.getD_eq_getElem?_getD, h]
theorem implNext_ev (n : Int) (l : List S44) (rows : List (List Int)) : Ev (fun k => impl_NextClaims.f k n l rows) (nextR n l rows) := by
  have bad : Ev (fun k => impl_NextClaims.j0 k n l rows true) ([] : List (List Int)) := by
    refine Ev.step (fun k => by rw [impl_NextClaims.j0]) ?_
    exact evT rfl (Ev.now _)
  simp only [impl_NextClaims.f]
  refine evS (implCables_eq _ _) ?_
  unfold nextR
  by_cases hc : cv n l = true
  · refine evT hc ?_
    by_cases hl : (rows.length : Int) = n
    · refine evT hl (evS (a := rows.all okRow) rfl ?_)
      by_cases ha : rows.all okRow = true
      · rw [if_pos ⟨hc, hl, ha⟩, ha]
        obtain ⟨m, rfl, hV⟩ := cv_elim hc
        have hml : rows.length = m := by omega
        refine Ev.step (fun k => by rw [impl_NextClaims.j0]) ?_
        refine evF (by decide) (Ev.bind (implFirst_ev _) ?_)
        have e0 : rows0 (m : Int) = stC m (fun j => hearL (rows.map cmOf) j 0 ((l.map cbOf).take 0) (own j)) := by
          unfold rows0
          rw [if_pos ⟨by have := hV.m1; omega, by have := hV.m8; omega⟩, Int.toNat_natCast]
          rfl
        have hr := implNext_l0 hV (rows_gd hml ha) l.length 0 (by omega)
        rw [rows_back ha, ← e0] at hr
        exact hr
      · rw [if_neg (fun h => ha h.2.2)]
        rw [Bool.not_eq_true] at ha
        rw [ha]
        exact bad
    · rw [if_neg (fun h => hl h.2.1)]
      exact evF hl bad
  · rw [if_neg (fun h => hc h.1)]
    exact evF hc bad
theorem specNext_l0 {m : Nat} (hm8 : m ≤ 8) (l : List S44) {rows : List (List Int)} (hml : rows.length = m) {R : List (List Int)} (ha : rows.all okRow = true)
    (hn : Ev (fun k => (spec_FirstClaims.f k (m : Int)).bind fun t => spec_NextClaims.l1 k (m : Int) l rows t 0) R) : ∀ d i : Nat, i + d = m → Ev (fun k => spec_NextClaims.l0 k (m : Int) l rows (i : Int)) R := by
  intro d
  induction d with
  | zero =>
    intro i hi
    refine Ev.step (fun k => by rw [spec_NextClaims.l0]) ?_
    exact evF (by omega) hn
  | succ d ih =>
    intro i hi
    have ok := List.all_eq_true.1 ha _ (List.getElem_mem (show i < rows.length by omega))
    simp only [okRow, Bool.and_eq_true, decide_eq_true_eq] at ok
    refine Ev.step (fun k => by rw [spec_NextClaims.l0]) ?_
    refine evT (by omega) (evT (by omega) (evT (by omega) ?_))
    rw [L5_at rows i (by omega)]
    refine evT (by omega) (evT (by omega) (evS (l1In_eq _ _ _) (evT (decide_eq_true ok.2) ?_)))
    rw [show wrap64 ((i : Int) + 1) = ((i + 1 : Nat) : Int) by rw [w64 (by omega) (by omega)]; omega]
    exact ih (i + 1) (by omega)
theorem specNext_bad {m : Nat} (hm8 : m ≤ 8) (l : List S44) {rows : List (List Int)} (hml : rows.length = m) : ∀ d i : Nat, i + d = m → (rows.drop i).all okRow = false → Ev (fun k => spec_NextClaims.l0 k (m : Int) l rows (i : Int)) ([] : List (List Int)) := by
  intro d
  induction d with
  | zero =>
    intro i hi ha
    rw [List.drop_of_length_le (by omega)] at ha
    cases ha
  | succ d ih =>
    intro i hi ha
    rw [List.drop_eq_getElem_cons (show i < rows.length by omega), List.all_cons] at ha
    refine Ev.step (fun k => by rw [spec_NextClaims.l0]) ?_
    refine evT (by omega) (evT (by omega) (evT (by omega) ?_))
    rw [L5_at rows i (by omega), show wrap64 ((i : Int) + 1) = ((i + 1 : Nat) : Int) by rw [w64 (by omega) (by omega)]; omega]
    by_cases h4 : rows[i].length = 4
    · refine evT (by omega) (evT (by omega) (evS (l1In_eq _ _ _) ?_))
      by_cases hd : 0 ≤ rd rows[i] 1 ∧ rd rows[i] 1 ≤ 10000
      · refine evT (decide_eq_true hd) (ih (i + 1) (by omega) ?_)
        have hok : okRow rows[i] = true := by
          simp only [okRow, Bool.and_eq_true, decide_eq_true_eq]
          exact ⟨h4, hd⟩
        rw [hok, Bool.true_and] at ha
        exact ha
      · exact evF (by simp only [decide_eq_true_eq]; exact hd) (Ev.now _)
    · exact evF (by omega) (Ev.now _)
theorem specNext_ev (n : Int) (l : List S44) (rows : List (List Int)) : Ev (fun k => spec_NextClaims.f k n l rows) (nextR n l rows) := by
  simp only [spec_NextClaims.f]
  refine Ev.bind (specCables_ev _ _) ?_
  unfold nextR
  by_cases hc : cv n l = true
  · refine evT hc (Ev.step (fun k => by rw [spec_NextClaims.j0]) ?_)
    by_cases hl : (rows.length : Int) = n
    · refine evF (by simp [hl]) ?_
      obtain ⟨m, rfl, hV⟩ := cv_elim hc
      have hml : rows.length = m := by omega
      have hm8 := hV.m8
      by_cases ha : rows.all okRow = true
      · rw [if_pos ⟨hc, hl, ha⟩, Int.toNat_natCast]
        refine specNext_l0 hm8 l hml ha (Ev.bind (specFirst_ev _) ?_) m 0 (by omega)
        have e0 : rows0 (m : Int) = stC m (fun j => if j < 0 then nextC (l.map cbOf) (rows.map cmOf) j else own j) := by
          unfold rows0
          rw [if_pos ⟨by have := hV.m1; omega, by omega⟩, Int.toNat_natCast]
          exact stC_congr fun j _ => by rw [if_neg (by omega)]
        have hr := specNext_l1 hV (rows_gd hml ha) m 0 (by omega)
        rw [rows_back ha, ← e0] at hr
        exact hr
      · rw [if_neg (fun h => ha h.2.2)]
        exact specNext_bad hm8 l hml m 0 (by omega) (by simpa using ha)
    · rw [if_neg (fun h => hl h.2.1)]
      exact evT (by simpa using hl) (Ev.now _)
  · rw [if_neg (fun h => hc h.1)]
    refine evF hc (Ev.step (fun k => by rw [spec_NextClaims.j0]) ?_)
    exact evT rfl (Ev.now _)
def clR (m : Nat) (L : List Cb) (j : Nat) : List (List Int) := (claimsL m L j).map cmL
theorem clR_len (m : Nat) (L : List Cb) (j : Nat) : (clR m L j).length = m := by simp [clR, claims_len]
theorem clR_zero (m : Nat) (L : List Cb) : clR m L 0 = stC m own := by
  show (firstL m).map cmL = _
  unfold firstL stC
  rw [List.map_map]
  rfl
theorem clR_ok {m : Nat} {l : List S44} (hV : Vd m l) {j : Nat} (hj : j ≤ 100) : (clR m (l.map cbOf) j).all okRow = true := by
  refine List.all_eq_true.2 fun c hc => ?_
  obtain ⟨x, hx, rfl⟩ := List.mem_map.1 hc
  obtain ⟨o, ho, rfl⟩ := List.getElem_of_mem hx
  have hom : o < m := by rw [claims_len] at ho; exact ho
  have := claims_small hV.okc j o hom
  have e : getC (claimsL m (l.map cbOf) j) o = (claimsL m (l.map cbOf) j)[o] := by simp [getC, List.getD_eq_getElem?_getD, ho]
  rw [e] at this
  exact okRow_cmL _ ⟨this.1, by omega⟩
theorem clR_next {m : Nat} {l : List S44} (hV : Vd m l) (hc : cv (m : Int) l = true) {j : Nat} (hj : j ≤ 100) : nextR (m : Int) l (clR m (l.map cbOf) j) = clR m (l.map cbOf) (j + 1) := by
  unfold nextR
  rw [if_pos ⟨hc, by rw [clR_len], clR_ok hV hj⟩, Int.toNat_natCast]
  have e : (clR m (l.map cbOf) j).map cmOf = claimsL m (l.map cbOf) j := by
    unfold clR
    rw [List.map_map]
    conv => rhs; rw [← List.map_id (claimsL m (l.map cbOf) j)]
    exact List.map_congr_left fun x _ => rfl
  rw [e]
  unfold clR
  rw [claims_succ]
  unfold nextL stC
  rw [List.map_map]
  rfl
def afterR (n : Int) (l : List S44) (r : Int) : List (List Int) := if cv n l = true ∧ 0 ≤ r ∧ r ≤ 100 then clR n.toNat (l.map cbOf) r.toNat else []
theorem implAfter_l0 {m : Nat} {l : List S44} (hV : Vd m l) (hc : cv (m : Int) l = true) {r : Nat} (hr : r ≤ 100) : ∀ d i : Nat, i + d = r → Ev (fun k => impl_ClaimsAfter.l0 k (m : Int) l (clR m (l.map cbOf) i) (r : Int) (i : Int)) (clR m (l.map cbOf) r) := by
  intro d
  induction d with
  | zero =>
    intro i hi
    obtain rfl : i = r := by omega
    refine Ev.step (fun k => by rw [impl_ClaimsAfter.l0]) ?_
    exact evF (by omega) (Ev.now _)
  | succ d ih =>
    intro i hi
    refine Ev.step (fun k => by rw [impl_ClaimsAfter.l0]) ?_
    refine evT (by omega) (Ev.bind (implNext_ev _ _ _) ?_)
    rw [clR_next hV hc (by omega), show wrap64 ((i : Int) + 1) = ((i + 1 : Nat) : Int) by rw [w64 (by omega) (by omega)]; omega]
    exact ih (i + 1) (by omega)
theorem specAfter_l0 {m : Nat} {l : List S44} (hV : Vd m l) (hc : cv (m : Int) l = true) {r : Nat} (hr : r ≤ 100) : ∀ d i : Nat, i + d = r → Ev (fun k => spec_ClaimsAfter.l0 k (m : Int) l (clR m (l.map cbOf) i) (r : Int) (i : Int)) (clR m (l.map cbOf) r) := by
  intro d
  induction d with
  | zero =>
    intro i hi
    obtain rfl : i = r := by omega
    refine Ev.step (fun k => by rw [spec_ClaimsAfter.l0]) ?_
    exact evF (by omega) (Ev.now _)
  | succ d ih =>
    intro i hi
    refine Ev.step (fun k => by rw [spec_ClaimsAfter.l0]) ?_
    refine evT (by omega) (Ev.bind (specNext_ev _ _ _) ?_)
    rw [clR_next hV hc (by omega), show wrap64 ((i : Int) + 1) = ((i + 1 : Nat) : Int) by rw [w64 (by omega) (by omega)]; omega]
    exact ih (i + 1) (by omega)
theorem rows0_eq {m : Nat} {l : List S44} (hV : Vd m l) : rows0 (m : Int) = clR m (l.map cbOf) 0 := by
  unfold rows0
  rw [if_pos ⟨by have := hV.m1; omega, by have := hV.m8; omega⟩, Int.toNat_natCast, clR_zero]
theorem implAfter_ev (n : Int) (l : List S44) (r : Int) : Ev (fun k => impl_ClaimsAfter.f k n l r) (afterR n l r) := by
  have bad : Ev (fun k => impl_ClaimsAfter.j0 k n l r true) ([] : List (List Int)) := by
    refine Ev.step (fun k => by rw [impl_ClaimsAfter.j0]) ?_
    exact evT rfl (Ev.now _)
  simp only [impl_ClaimsAfter.f]
  refine evS (implCables_eq _ _) ?_
  unfold afterR
  by_cases hc : cv n l = true
  · refine evT hc (evS (within_eq _ _ _) ?_)
    by_cases hr : 0 ≤ r ∧ r ≤ 100
    · rw [if_pos ⟨hc, hr⟩, decide_eq_true hr]
      obtain ⟨m, rfl, hV⟩ := cv_elim hc
      obtain ⟨r, rfl⟩ := Int.eq_ofNat_of_zero_le hr.1
      refine Ev.step (fun k => by rw [impl_ClaimsAfter.j0]) ?_
      refine evF (by decide) (Ev.bind (implFirst_ev _) ?_)
      rw [rows0_eq hV, Int.toNat_natCast, Int.toNat_natCast]
      exact implAfter_l0 hV hc (by omega) r 0 (by omega)
    · rw [if_neg (fun h => hr h.2), decide_eq_false hr]
      exact bad
  · rw [if_neg (fun h => hc h.1)]
    exact evF hc bad
theorem specAfter_ev (n : Int) (l : List S44) (r : Int) : Ev (fun k => spec_ClaimsAfter.f k n l r) (afterR n l r) := by
  have bad : Ev (fun k => spec_ClaimsAfter.j0 k n l r true) ([] : List (List Int)) := by
    refine Ev.step (fun k => by rw [spec_ClaimsAfter.j0]) ?_
    exact evT rfl (Ev.now _)
  simp only [spec_ClaimsAfter.f]
  refine Ev.bind (specCables_ev _ _) ?_
  unfold afterR
  by_cases hc : cv n l = true
  · refine evT hc (evS (l1In_eq _ _ _) ?_)
    by_cases hr : 0 ≤ r ∧ r ≤ 100
    · rw [if_pos ⟨hc, hr⟩, decide_eq_true hr]
      obtain ⟨m, rfl, hV⟩ := cv_elim hc
      obtain ⟨r, rfl⟩ := Int.eq_ofNat_of_zero_le hr.1
      refine Ev.step (fun k => by rw [spec_ClaimsAfter.j0]) ?_
      refine evF (by decide) (Ev.bind (specFirst_ev _) ?_)
      rw [rows0_eq hV, Int.toNat_natCast, Int.toNat_natCast]
      exact specAfter_l0 hV hc (by omega) r 0 (by omega)
    · rw [if_neg (fun h => hr h.2), decide_eq_false hr]
      exact bad
  · rw [if_neg (fun h => hc h.1)]
    exact evF hc bad

end Go.Proofs.Ytegnghbgkiddoaa.Q
