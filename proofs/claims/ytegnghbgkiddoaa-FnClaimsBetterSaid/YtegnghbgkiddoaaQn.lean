/- Plain lemmas on what the printed functions compute (seat Ytegnghbgkiddoaa, module Qn). Conditions: each lemma's own. -/
import Derived.Test.YtegnghbgkiddoaaQc
import Derived.Test.YtegnghbgkiddoaaQMb
import Derived.Test.YtegnghbgkiddoaaPA0
import Derived.Test.YtegnghbgkiddoaaPA17
import Derived.Test.YtegnghbgkiddoaaPA27
set_option linter.unusedVariables false
set_option linter.unusedSimpArgs false
namespace Go.Proofs.Ytegnghbgkiddoaa.Q
open Go Go.RowKit Go.Proofs.Ytegnghbgkiddoaa.PA Go.Proofs.YtegnghbgkiddoaaW.PrintWords Go.Proofs.YtegnghbgkiddoaaW.PrintLast

/-! ### claims as rows -/
def cmL (x : Cm) : List Int := [x.r, x.d, x.o, x.i]
def cmOf (l : List Int) : Cm := ⟨l.getD 0 0, l.getD 1 0, l.getD 2 0, l.getD 3 0⟩
def okRow (c : List Int) : Bool := decide (c.length = 4) && decide (0 ≤ c.getD 1 0 ∧ c.getD 1 0 ≤ 10000)
theorem okRow_of {c : List Int} (h : okRow c = true) : c = cmL (cmOf c) ∧ 0 ≤ (cmOf c).d ∧ (cmOf c).d ≤ 10000 := by
  simp only [okRow, Bool.and_eq_true, decide_eq_true_eq] at h
  match c, h.1 with
  | [a, b, d, e], _ => exact ⟨rfl, h.2⟩
theorem okRow_cmL (x : Cm) (h : 0 ≤ x.d ∧ x.d ≤ 10000) : okRow (cmL x) = true := by
  simp [okRow, cmL, h]
theorem less_step {a b : List Int} (ha : a.length = 4) (hb : b.length = 4) (i : Nat) (hi : i < 4) {v : Bool} (h : rd a (i : Int) = rd b (i : Int) → Ev (fun k => spec_l7Less.l0 k a b ((i + 1 : Nat) : Int)) v) (h2 : rd a (i : Int) ≠ rd b (i : Int) → v = decide (rd a (i : Int) < rd b (i : Int))) :
    Ev (fun k => spec_l7Less.l0 k a b (i : Int)) v := by
  refine Ev.step (fun k => by rw [spec_l7Less.l0]) ?_
  refine evT (by omega) (evT (by omega) (evT (by omega) (evT (by omega) ?_)))
  by_cases e : rd a (i : Int) = rd b (i : Int)
  · refine evT e ?_
    rw [show wrap64 ((i : Int) + 1) = ((i + 1 : Nat) : Int) by rw [w64 (by omega) (by omega)]; omega]
    exact h e
  · exact evF e (evE (Ev.now _) (h2 e).symm)
theorem less_ev (x y : Cm) : Ev (fun k => spec_l7Less.f k (cmL x) (cmL y)) (decide (ltC x y)) := by
  simp only [spec_l7Less.f]
  refine less_step rfl rfl 0 (by omega) (fun e0 => less_step rfl rfl 1 (by omega) (fun e1 => less_step rfl rfl 2 (by omega) (fun e2 => less_step rfl rfl 3 (by omega) (fun e3 => ?_) (fun e3 => ?_)) (fun e2 => ?_)) (fun e1 => ?_)) (fun e0 => ?_)
  · change x.r = y.r at e0; change x.d = y.d at e1; change x.o = y.o at e2; change x.i = y.i at e3
    refine Ev.step (fun k => by rw [spec_l7Less.l0]) ?_
    refine evF (by omega) (evE (Ev.now _) (decide_eq_false ?_).symm)
    unfold ltC; omega
  · change x.r = y.r at e0; change x.d = y.d at e1; change x.o = y.o at e2; change x.i ≠ y.i at e3
    show _ = decide (x.i < y.i)
    refine decide_eq_decide.2 ?_
    unfold ltC; omega
  · change x.r = y.r at e0; change x.d = y.d at e1; change x.o ≠ y.o at e2
    show _ = decide (x.o < y.o)
    refine decide_eq_decide.2 ?_
    unfold ltC; omega
  · change x.r = y.r at e0; change x.d ≠ y.d at e1
    show _ = decide (x.d < y.d)
    refine decide_eq_decide.2 ?_
    unfold ltC; omega
  · change x.r ≠ y.r at e0
    show _ = decide (x.r < y.r)
    refine decide_eq_decide.2 ?_
    unfold ltC; omega
theorem compareInt_eq (x y : Int) : cmp_Compare_int.f x y = some (if x < y then -1 else if x > y then 1 else 0) := by
  unfold cmp_Compare_int.f cmp_isNaN_int.f
  simp only [Option.bind_some, bne_self_eq_false]
  rw [if_neg (by decide), if_neg (by decide)]
  split
  · rfl
  · split <;> rfl
theorem cmp_step {a b : List Int} (ha : a.length = 4) (hb : b.length = 4) (i : Nat) (hi : i < 4) {P : Int → Prop} (h : rd a (i : Int) = rd b (i : Int) → ∃ v, Ev (fun k => slices_Compare_int_int.l0 k a b a (a.length : Int) ((i + 1 : Nat) : Int)) v ∧ P v)
    (h1 : rd a (i : Int) < rd b (i : Int) → P (-1)) (h2 : rd b (i : Int) < rd a (i : Int) → P 1) :
    ∃ v, Ev (fun k => slices_Compare_int_int.l0 k a b a (a.length : Int) (i : Int)) v ∧ P v := by
  have key : ∀ {v : Int}, Ev (fun k => (cmp_Compare_int.f (rd a (i : Int)) (rd b (i : Int))).bind fun t => if t = 0 then slices_Compare_int_int.l0 k a b a (a.length : Int) (wrap64 ((i : Int) + 1)) else some t) v → Ev (fun k => slices_Compare_int_int.l0 k a b a (a.length : Int) (i : Int)) v := by
    intro v hv
    refine Ev.step (fun k => by rw [slices_Compare_int_int.l0]) ?_
    exact evT (by omega) (evT (by omega) (evT (by omega) (evF (by omega) (evT (by omega) hv))))
  by_cases c1 : rd a (i : Int) < rd b (i : Int)
  · refine ⟨-1, key (evS (a := -1) (by rw [compareInt_eq, if_pos c1]) (evF (by omega) (Ev.now _))), h1 c1⟩
  · by_cases c2 : rd b (i : Int) < rd a (i : Int)
    · exact ⟨1, key (evS (a := 1) (by rw [compareInt_eq, if_neg c1, if_pos c2]) (evF (by omega) (Ev.now _))), h2 c2⟩
    · obtain ⟨v, hv, hp⟩ := h (by omega)
      refine ⟨v, key (evS (a := 0) (by rw [compareInt_eq, if_neg c1, if_neg (by omega)]) (evT rfl ?_)), hp⟩
      rw [show wrap64 ((i : Int) + 1) = ((i + 1 : Nat) : Int) by rw [w64 (by omega) (by omega)]; omega]
      exact hv
theorem compare_ev (x y : Cm) : ∃ v, Ev (fun k => slices_Compare_int_int.f k (cmL x) (cmL y)) v ∧ (v < 0 ↔ ltC x y) := by
  simp only [slices_Compare_int_int.f]
  refine cmp_step (P := fun v => v < 0 ↔ ltC x y) rfl rfl 0 (by omega) (fun e0 => cmp_step (P := fun v => v < 0 ↔ ltC x y) rfl rfl 1 (by omega) (fun e1 => cmp_step (P := fun v => v < 0 ↔ ltC x y) rfl rfl 2 (by omega) (fun e2 => cmp_step (P := fun v => v < 0 ↔ ltC x y) rfl rfl 3 (by omega) (fun e3 => ?_) (fun e3 => ?_) (fun e3 => ?_)) (fun e2 => ?_) (fun e2 => ?_)) (fun e1 => ?_) (fun e1 => ?_)) (fun e0 => ?_) (fun e0 => ?_)
  · change x.r = y.r at e0; change x.d = y.d at e1; change x.o = y.o at e2; change x.i = y.i at e3
    refine ⟨0, Ev.step (fun k => by rw [slices_Compare_int_int.l0]) ?_, by unfold ltC; omega⟩
    exact evF (by show ¬ ((4 : Nat) : Int) < ((4 : Nat) : Int); omega) (evF (by show ¬ ((4 : Nat) : Int) < ((4 : Nat) : Int); omega) (Ev.now _))
  · change x.r = y.r at e0; change x.d = y.d at e1; change x.o = y.o at e2; change x.i < y.i at e3; unfold ltC; omega
  · change x.r = y.r at e0; change x.d = y.d at e1; change x.o = y.o at e2; change y.i < x.i at e3; unfold ltC; omega
  · change x.r = y.r at e0; change x.d = y.d at e1; change x.o < y.o at e2; unfold ltC; omega
  · change x.r = y.r at e0; change x.d = y.d at e1; change y.o < x.o at e2; unfold ltC; omega
  · change x.r = y.r at e0; change x.d < y.d at e1; unfold ltC; omega
  · change x.r = y.r at e0; change y.d < x.d at e1; unfold ltC; omega
  · change x.r < y.r at e0; unfold ltC; omega
  · change y.r < x.r at e0; unfold ltC; omega

/-! ### the state of the rounds -/
def stC (m : Nat) (f : Nat → Cm) : List (List Int) := (List.range m).map fun j => cmL (f j)
theorem stC_len (m : Nat) (f : Nat → Cm) : (stC m f).length = m := by simp [stC]
theorem stC_rd (m : Nat) (f : Nat → Cm) (a : Nat) (h : a < m) : rd_L5 (stC m f) (a : Int) = cmL (f a) := by
  simp [rd_L5, stC, List.getD_eq_getElem?_getD, h]
theorem stC_set (m : Nat) (f : Nat → Cm) (a : Nat) (v : Cm) : (stC m f).set a (cmL v) = stC m (fun j => if j = a then v else f j) := by
  refine List.ext_getElem? fun j => ?_
  unfold stC
  rw [List.getElem?_set]
  by_cases e : a = j
  · subst e
    by_cases h : a < m <;> simp [h]
  · rw [if_neg e, List.getElem?_map, List.getElem?_map]
    by_cases h : j < m
    · simp [h, show j ≠ a from fun h => e h.symm]
    · simp [h]
theorem stC_congr {m : Nat} {f g : Nat → Cm} (h : ∀ j, j < m → f j = g j) : stC m f = stC m g := by
  unfold stC
  exact List.map_congr_left fun j hj => by rw [h j (List.mem_range.1 hj)]
theorem mapcm_rd (cl : List Cm) (o : Nat) (h : o < cl.length) : rd_L5 (cl.map cmL) (o : Int) = cmL (getC cl o) := by
  simp [rd_L5, getC, List.getD_eq_getElem?_getD, h]

/-! ### the first claims -/
def rows0 (n : Int) : List (List Int) := if 1 ≤ n ∧ n ≤ 8 then stC n.toNat own else []
theorem stC_snoc (i : Nat) : stC i own ++ [([(i : Int), 0, (-1), (-1)] : List Int)] = stC (i + 1) own := by
  unfold stC
  rw [List.range_succ, List.map_append]
  rfl
theorem specFirst_l0 (m : Nat) (hm : m ≤ 8) : ∀ d i : Nat, i + d = m → Ev (fun k => spec_FirstClaims.l0 k (m : Int) (stC i own) (i : Int)) (stC m own) := by
  intro d
  induction d with
  | zero =>
    intro i hi
    obtain rfl : i = m := by omega
    refine Ev.step (fun k => by rw [spec_FirstClaims.l0]) ?_
    exact evF (by omega) (Ev.now _)
  | succ d ih =>
    intro i hi
    refine Ev.step (fun k => by rw [spec_FirstClaims.l0]) ?_
    refine evT (by omega) (evT (by omega) (evT (by rw [stC_len]; omega) ?_))
    rw [stC_snoc, show wrap64 ((i : Int) + 1) = ((i + 1 : Nat) : Int) by rw [w64 (by omega) (by omega)]; omega]
    exact ih (i + 1) (by omega)
theorem specFirst_ev (n : Int) : Ev (fun k => spec_FirstClaims.f k n) (rows0 n) := by
  simp only [spec_FirstClaims.f]
  by_cases h : 1 ≤ n ∧ n ≤ 8
  · obtain ⟨m, rfl⟩ := Int.eq_ofNat_of_zero_le (show 0 ≤ n by omega)
    unfold rows0
    rw [if_pos h, Int.toNat_natCast]
    exact specFirst_l0 m (by omega) m 0 (by omega)
  · unfold rows0
    rw [if_neg h]
    refine Ev.step (fun k => by rw [spec_FirstClaims.l0]) ?_
    by_cases h1 : 0 < n
    · exact evT h1 (evF (by omega) (Ev.now _))
    · exact evF h1 (Ev.now _)
theorem implFirst_l0 (m : Nat) (hm : m ≤ 8) : ∀ d i : Nat, i + d = m → Ev (fun k => impl_FirstClaims.l0 k (stC i own) (m : Int) (i : Int)) (stC m own) := by
  intro d
  induction d with
  | zero =>
    intro i hi
    obtain rfl : i = m := by omega
    refine Ev.step (fun k => by rw [impl_FirstClaims.l0]) ?_
    exact evF (by omega) (Ev.now _)
  | succ d ih =>
    intro i hi
    refine Ev.step (fun k => by rw [impl_FirstClaims.l0]) ?_
    refine evT (by omega) (evT (by rw [stC_len]; omega) ?_)
    rw [stC_snoc, show wrap64 ((i : Int) + 1) = ((i + 1 : Nat) : Int) by rw [w64 (by omega) (by omega)]; omega]
    exact ih (i + 1) (by omega)
theorem implFirst_ev (n : Int) : Ev (fun k => impl_FirstClaims.f k n) (rows0 n) := by
  simp only [impl_FirstClaims.f]
  refine evS (within_eq _ _ _) ?_
  by_cases h : 1 ≤ n ∧ n ≤ 8
  · obtain ⟨m, rfl⟩ := Int.eq_ofNat_of_zero_le (show 0 ≤ n by omega)
    unfold rows0
    rw [if_pos h, Int.toNat_natCast]
    exact evT (decide_eq_true h) (implFirst_l0 m (by omega) m 0 (by omega))
  · unfold rows0
    rw [if_neg h]
    exact evF (by simp only [decide_eq_true_eq]; exact h) (Ev.now _)

end Go.Proofs.Ytegnghbgkiddoaa.Q
