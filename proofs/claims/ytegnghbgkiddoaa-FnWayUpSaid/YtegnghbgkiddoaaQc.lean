/- Plain lemmas on what the printed functions compute (seat Ytegnghbgkiddoaa, module Qc). Conditions: each lemma's own. -/
import Derived.Test.YtegnghbgkiddoaaQa
import Derived.Test.YtegnghbgkiddoaaQMa
import Derived.Test.YtegnghbgkiddoaaPA0
import Derived.Test.YtegnghbgkiddoaaPA3
import Derived.Test.YtegnghbgkiddoaaPA5
import Derived.Test.YtegnghbgkiddoaaPA6
set_option linter.unusedVariables false
set_option linter.unusedSimpArgs false
namespace Go.Proofs.Ytegnghbgkiddoaa.Q
open Go Go.RowKit Go.Proofs.Ytegnghbgkiddoaa.PA Go.Proofs.YtegnghbgkiddoaaW.PrintWords Go.Proofs.YtegnghbgkiddoaaW.PrintLast

/-! ### cables: what the printed functions compute -/
def cbOf (x : S44) : Cb := ⟨x.f0.toNat, x.f1.toNat, x.f2⟩
def cv (n : Int) (l : List S44) : Bool := decide (1 ≤ n ∧ n ≤ 8) && (decide ((l.length : Int) ≤ 20) && l.all (fun x => decide (0 ≤ x.f0 ∧ x.f0 ≤ n - 1) && (decide (0 ≤ x.f1 ∧ x.f1 ≤ n - 1) && (!(x.f0 == x.f1) && decide (1 ≤ x.f2 ∧ x.f2 ≤ 99)))))
structure Vd (m : Nat) (l : List S44) : Prop where
  m1 : 1 ≤ m
  m8 : m ≤ 8
  len : l.length ≤ 20
  ok : ∀ (i : Nat) (h : i < l.length), ∃ a b : Nat, ∃ c : Int, l[i] = ⟨(a : Int), (b : Int), c⟩ ∧ a < m ∧ b < m ∧ a ≠ b ∧ 1 ≤ c ∧ c ≤ 99
theorem cv_elim {n : Int} {l : List S44} (h : cv n l = true) : ∃ m : Nat, n = (m : Int) ∧ Vd m l := by
  simp only [cv, Bool.and_eq_true, decide_eq_true_eq, List.all_eq_true, Bool.not_eq_true', beq_eq_false_iff_ne, ne_eq] at h
  obtain ⟨h1, h2, h3⟩ := h
  refine ⟨n.toNat, by omega, by omega, by omega, by omega, fun i hi => ?_⟩
  obtain ⟨⟨a1, a2⟩, ⟨b1, b2⟩, hne, c1, c2⟩ := h3 _ (List.getElem_mem hi)
  generalize l[i] = x at *
  obtain ⟨p, q, c⟩ := x
  simp only at a1 a2 b1 b2 hne c1 c2
  exact ⟨p.toNat, q.toNat, c, by rw [Int.toNat_of_nonneg a1, Int.toNat_of_nonneg b1], by omega, by omega, by omega, c1, c2⟩
theorem Vd.map {m : Nat} {l : List S44} (h : Vd m l) (i : Nat) (hi : i < l.length) : ∃ a b : Nat, ∃ c : Int, rd_T44 l (i : Int) = ⟨(a : Int), (b : Int), c⟩ ∧ a < m ∧ b < m ∧ a ≠ b ∧ 1 ≤ c ∧ c ≤ 99 ∧ (l.map cbOf)[i]? = some ⟨a, b, c⟩ ∧ (l.map cbOf).drop i = ⟨a, b, c⟩ :: (l.map cbOf).drop (i + 1) := by
  obtain ⟨a, b, c, e, h1⟩ := h.ok i hi
  have e2 : cbOf l[i] = ⟨a, b, c⟩ := by rw [e]; simp [cbOf]
  refine ⟨a, b, c, ?_, h1.1, h1.2.1, h1.2.2.1, h1.2.2.2.1, h1.2.2.2.2, ?_, ?_⟩
  · simp [rd_T44, List.getD_eq_getElem?_getD, hi, e]
  · simp [hi, e2]
  · rw [List.drop_eq_getElem_cons (by simpa using hi)]
    simp [e2]
theorem Vd.okc {m : Nat} {l : List S44} (h : Vd m l) : Okc m (l.map cbOf) := by
  intro x hx
  obtain ⟨y, hy, rfl⟩ := List.mem_map.1 hx
  obtain ⟨i, hi, rfl⟩ := List.getElem_of_mem hy
  obtain ⟨a, b, c, e, h1⟩ := h.ok i hi
  rw [e]
  simpa [cbOf] using h1
theorem implCables_eq (n : Int) (l : List S44) : impl_CablesValid.f n l = some (cv n l) := rfl
theorem specCables_l0 (n : Int) (hn : 1 ≤ n) (hn2 : n ≤ 8) (l : List S44) (hl : l.length ≤ 1000) : ∀ (d i : Nat), i + d = l.length →
    Ev (fun k => spec_CablesValid.l0 k n l (i : Int)) ((l.drop i).all (fun x => decide (0 ≤ x.f0 ∧ x.f0 ≤ n - 1) && (decide (0 ≤ x.f1 ∧ x.f1 ≤ n - 1) && (!(x.f0 == x.f1) && decide (1 ≤ x.f2 ∧ x.f2 ≤ 99))))) := by
  intro d
  induction d with
  | zero =>
    intro i hi
    refine Ev.step (fun k => by rw [spec_CablesValid.l0]) ?_
    refine evF (by omega) (evE (Ev.now _) ?_)
    rw [List.drop_of_length_le (by omega)]; rfl
  | succ d ih =>
    intro i hi
    have e : wrap64 ((i : Int) + 1) = ((i + 1 : Nat) : Int) := by rw [w64 (by omega) (by omega)]; omega
    have hil : i < l.length := by omega
    have hx : rd_T44 l (i : Int) = l[i] := by simp [rd_T44, List.getD_eq_getElem?_getD, hil]
    refine Ev.step (fun k => by rw [spec_CablesValid.l0]) ?_
    refine evT (by omega) (evT (by omega) ?_)
    rw [hx, w64 (x := n - 1) (by omega) (by omega), List.drop_eq_getElem_cons hil, List.all_cons, e]
    refine evS (l1In_eq _ _ _) ?_
    by_cases c1 : 0 ≤ l[i].f0 ∧ l[i].f0 ≤ n - 1
    · rw [decide_eq_true c1]
      refine evT rfl (evS (l1In_eq _ _ _) ?_)
      by_cases c2 : 0 ≤ l[i].f1 ∧ l[i].f1 ≤ n - 1
      · rw [decide_eq_true c2]
        refine evT rfl ?_
        by_cases c3 : l[i].f0 = l[i].f1
        · refine evT c3 (evE (Ev.now _) ?_)
          simp [c3]
        · refine evF c3 (evS (l1In_eq _ _ _) ?_)
          by_cases c4 : 1 ≤ l[i].f2 ∧ l[i].f2 ≤ 99
          · rw [decide_eq_true c4]
            refine evT rfl (evE (ih (i + 1) (by omega)) ?_)
            simp [c3]
          · rw [decide_eq_false c4]
            refine evF (by simp) (evE (Ev.now _) ?_)
            simp
      · rw [decide_eq_false c2]
        refine evF (by simp) (evE (Ev.now _) ?_)
        simp
    · rw [decide_eq_false c1]
      refine evF (by simp) (evE (Ev.now _) ?_)
      simp
theorem specCables_ev (n : Int) (l : List S44) : Ev (fun k => spec_CablesValid.f k n l) (cv n l) := by
  simp only [spec_CablesValid.f]
  refine evS (l1In_eq _ _ _) ?_
  by_cases c1 : 1 ≤ n ∧ n ≤ 8
  · rw [decide_eq_true c1]
    refine evT rfl ?_
    by_cases c2 : (l.length : Int) > 20
    · rw [decide_eq_true c2]
      refine Ev.step (fun k => by rw [spec_CablesValid.j0]) ?_
      refine evT rfl (evE (Ev.now _) ?_)
      unfold cv
      rw [decide_eq_false (show ¬ (l.length : Int) ≤ 20 by omega)]
      simp
    · rw [decide_eq_false c2]
      refine Ev.step (fun k => by rw [spec_CablesValid.j0]) ?_
      refine evF (by simp) (evE (specCables_l0 n c1.1 c1.2 l (by omega) l.length 0 (by omega)) ?_)
      unfold cv
      rw [decide_eq_true (show (l.length : Int) ≤ 20 by omega), decide_eq_true c1]
      simp
  · rw [decide_eq_false c1]
    refine evF (by simp) ?_
    refine Ev.step (fun k => by rw [spec_CablesValid.j0]) ?_
    refine evT rfl (evE (Ev.now _) ?_)
    unfold cv
    rw [decide_eq_false c1]
    simp
/-! roots -/
theorem implRoots_l2 {m : Nat} {l : List S44} (hV : Vd m l) (x22 x23 : Int) {R : List Int} : ∀ (d i : Nat) (s : List Int), i + d = l.length → s.length = m →
    Ev (fun k => impl_rootsOf.l1 k l (((l.map cbOf).drop i).foldl rrS s) x22 (wrap64 (x23 + 1))) R → Ev (fun k => impl_rootsOf.l2 k l s x22 x23 l (l.length : Int) (i : Int)) R := by
  have hlen := hV.len
  intro d
  induction d with
  | zero =>
    intro i s hi hs hR
    refine Ev.step (fun k => by rw [impl_rootsOf.l2]) ?_
    rw [List.drop_of_length_le (by simp; omega)] at hR
    exact evF (by omega) hR
  | succ d ih =>
    intro i s hi hs hR
    have e : wrap64 ((i : Int) + 1) = ((i + 1 : Nat) : Int) := by rw [w64 (by omega) (by omega)]; omega
    obtain ⟨a, b, c, hx, ha, hb, hne, hc1, hc2, _, hdr⟩ := hV.map i (by omega)
    rw [hdr, List.foldl_cons] at hR
    refine Ev.step (fun k => by rw [impl_rootsOf.l2]) ?_
    rw [hx, e]
    dsimp only
    refine evT (by omega) (evT (by omega) (evT (by omega) (evT (by omega) (evT (by omega) (evT (by omega) (evT (by omega) ?_))))))
    simp only [rd_getD, mn_min, Int.toNat_natCast]
    exact ih (i + 1) (rrS s ⟨a, b, c⟩) (by omega) (by rw [rrS_len]; exact hs) hR
theorem implRoots_l1 {m : Nat} {l : List S44} (hV : Vd m l) : ∀ (d r : Nat) (s : List Int), r + d = m → s.length = m →
    Ev (fun k => impl_rootsOf.l1 k l s (m : Int) (r : Int)) (iter (fun s => (l.map cbOf).foldl rrS s) d s) := by
  have hm8 := hV.m8
  intro d
  induction d with
  | zero =>
    intro r s hr hs
    refine Ev.step (fun k => by rw [impl_rootsOf.l1]) ?_
    exact evF (by omega) (Ev.now _)
  | succ d ih =>
    intro r s hr hs
    refine Ev.step (fun k => by rw [impl_rootsOf.l1]) ?_
    refine evT (by omega) ?_
    refine implRoots_l2 hV _ _ l.length 0 s (by omega) hs ?_
    rw [w64 (by omega) (by omega), show (r : Int) + 1 = ((r + 1 : Nat) : Int) by omega]
    have hl2 : (((l.map cbOf).drop 0).foldl rrS s).length = m := by
      rw [← hs]
      clear ih
      generalize (l.map cbOf).drop 0 = L
      induction L generalizing s with
      | nil => rfl
      | cons x L ihL => rw [List.foldl_cons, ihL _ (by rw [rrS_len]; exact hs), rrS_len]
    exact ih (r + 1) _ (by omega) hl2
theorem implRoots_l0 {m : Nat} {l : List S44} (hV : Vd m l) {R : List Int} (hR : Ev (fun k => impl_rootsOf.l1 k l (idl m) (m : Int) 0) R) : ∀ (d i : Nat) (s : List Int), i + d = m → s.length = m → (∀ j, j < i → s.getD j 0 = (j : Int)) →
    Ev (fun k => impl_rootsOf.l0 k (m : Int) l s (m : Int) (i : Int)) R := by
  have hm8 := hV.m8
  intro d
  induction d with
  | zero =>
    intro i s hi hs hj
    have : s = idl m := getD_ext (by rw [idl_len, hs]) (fun j hj2 => by rw [hj j (by omega), idl_at _ _ (by omega)])
    subst this
    refine Ev.step (fun k => by rw [impl_rootsOf.l0]) ?_
    exact evF (by omega) hR
  | succ d ih =>
    intro i s hi hs hj
    have e : wrap64 ((i : Int) + 1) = ((i + 1 : Nat) : Int) := by rw [w64 (by omega) (by omega)]; omega
    refine Ev.step (fun k => by rw [impl_rootsOf.l0]) ?_
    refine evT (by omega) (evT (by omega) (evT (by omega) ?_))
    rw [e, Int.toNat_natCast]
    refine ih (i + 1) _ (by omega) (by rw [List.length_set]; exact hs) (fun j hj2 => ?_)
    rw [getD_set _ _ _ _ (by omega)]
    by_cases e2 : i = j
    · rw [if_pos e2, e2]
    · rw [if_neg e2]; exact hj j (by omega)
theorem implRoots_ev {m : Nat} {l : List S44} (hV : Vd m l) : ∃ rs : List Int, Ev (fun k => impl_rootsOf.f k (m : Int) l) rs ∧ rs.length = m ∧ ∀ b r, b < m → Rt (l.map cbOf) b r → rs.getD b 0 = (r : Int) := by
  have hm8 := hV.m8
  obtain ⟨h1, h2⟩ := roots_final hV.okc (k := m) (by omega)
  refine ⟨_, ?_, h1, h2⟩
  simp only [impl_rootsOf.f]
  refine evT (by omega) (evT (by omega) (evS rfl ?_))
  rw [Int.toNat_natCast, List.length_replicate]
  exact implRoots_l0 hV (implRoots_l1 hV m 0 _ (by omega) (idl_len m)) m 0 _ (by omega) (by simp) (fun j hj => by omega)
theorem specJoined_l1 {m : Nat} {l : List S44} (hV : Vd m l) (x14 x15 : Int) {R : List Bool} : ∀ (d i : Nat) (s : List Bool), i + d = l.length → s.length = m →
    Ev (fun k => spec_l7Joined.l0 k l (((l.map cbOf).drop i).foldl jnS s) x14 (wrap64 (x15 + 1))) R → Ev (fun k => spec_l7Joined.l1 k l s (i : Int) x14 x15) R := by
  have hlen := hV.len
  intro d
  induction d with
  | zero =>
    intro i s hi hs hR
    refine Ev.step (fun k => by rw [spec_l7Joined.l1]) ?_
    rw [List.drop_of_length_le (by simp; omega)] at hR
    exact evF (by omega) hR
  | succ d ih =>
    intro i s hi hs hR
    have e : wrap64 ((i : Int) + 1) = ((i + 1 : Nat) : Int) := by rw [w64 (by omega) (by omega)]; omega
    obtain ⟨a, b, c, hx, ha, hb, hne, hc1, hc2, _, hdr⟩ := hV.map i (by omega)
    rw [hdr, List.foldl_cons] at hR
    have nx := ih (i + 1) (jnS s ⟨a, b, c⟩) (by omega) (by rw [jnS_len]; exact hs) hR
    refine Ev.step (fun k => by rw [spec_l7Joined.l1]) ?_
    rw [hx, e]
    dsimp only
    refine evT (by omega) (evT (by omega) (evT (by omega) (evT (by omega) ?_)))
    simp only [rdOf_getD, Int.toNat_natCast]
    by_cases c1 : s.getD a false = true
    · refine evT c1 (evT (by omega) (evT (by omega) ?_))
      rw [show jnS s ⟨a, b, c⟩ = (s.set a true).set b true by unfold jnS; rw [if_pos (by simp only [c1, Bool.true_or])]] at nx
      exact nx
    · refine evF c1 (evT (by omega) (evT (by omega) ?_))
      by_cases c2 : s.getD b false = true
      · refine evT c2 ?_
        rw [show jnS s ⟨a, b, c⟩ = (s.set a true).set b true by unfold jnS; rw [if_pos (by simp only [c2, Bool.or_true])]] at nx
        exact nx
      · refine evF c2 ?_
        rw [show jnS s ⟨a, b, c⟩ = s by unfold jnS; rw [if_neg (by simp only [Bool.not_eq_true] at c1 c2; simp only [c1, c2]; simp)]] at nx
        exact nx
theorem specJoined_l0 {m : Nat} {l : List S44} (hV : Vd m l) : ∀ (d r : Nat) (s : List Bool), r + d = m → s.length = m →
    Ev (fun k => spec_l7Joined.l0 k l s (m : Int) (r : Int)) (iter (fun s => (l.map cbOf).foldl jnS s) d s) := by
  have hm8 := hV.m8
  intro d
  induction d with
  | zero =>
    intro r s hr hs
    refine Ev.step (fun k => by rw [spec_l7Joined.l0]) ?_
    exact evF (by omega) (Ev.now _)
  | succ d ih =>
    intro r s hr hs
    refine Ev.step (fun k => by rw [spec_l7Joined.l0]) ?_
    refine evT (by omega) ?_
    refine specJoined_l1 hV _ _ l.length 0 s (by omega) hs ?_
    rw [w64 (by omega) (by omega), show (r : Int) + 1 = ((r + 1 : Nat) : Int) by omega]
    have hl2 : (((l.map cbOf).drop 0).foldl jnS s).length = m := by
      rw [← hs]
      clear ih
      generalize (l.map cbOf).drop 0 = L
      induction L generalizing s with
      | nil => rfl
      | cons x L ihL => rw [List.foldl_cons, ihL _ (by rw [jnS_len]; exact hs), jnS_len]
    exact ih (r + 1) _ (by omega) hl2
theorem specRoot_l0 (js : List Bool) (r : Nat) (hr : r < js.length) (hl : js.length ≤ 8) (h1 : js.getD r false = true) (h2 : ∀ j, js.getD j false = true → r ≤ j) : ∀ (d i : Nat), i + d = r → Ev (fun k => spec_l7Root.l0 k js (i : Int)) (r : Int) := by
  intro d
  induction d with
  | zero =>
    intro i hi
    obtain rfl : i = r := by omega
    refine Ev.step (fun k => by rw [spec_l7Root.l0]) ?_
    exact evT (by omega) (evT (by omega) (evT (by rw [rdOf_getD]; exact h1) (Ev.now _)))
  | succ d ih =>
    intro i hi
    have e : wrap64 ((i : Int) + 1) = ((i + 1 : Nat) : Int) := by rw [w64 (by omega) (by omega)]; omega
    refine Ev.step (fun k => by rw [spec_l7Root.l0]) ?_
    refine evT (by omega) (evT (by omega) (evF (fun h => ?_) ?_))
    · rw [rdOf_getD] at h
      have := h2 i h
      omega
    · rw [e]; exact ih (i + 1) (by omega)
theorem specRoot_ev {m : Nat} {l : List S44} (hV : Vd m l) {b r : Nat} (hb : b < m) (hr : Rt (l.map cbOf) b r) : Ev (fun k => spec_l7Root.f k (m : Int) l (b : Int)) (r : Int) := by
  have hm8 := hV.m8
  obtain ⟨h1, h2⟩ := joined_final hV.okc hb (k := m) (by omega)
  simp only [spec_l7Root.f, spec_l7Joined.f]
  refine Ev.bind (a := iter (fun s => (l.map cbOf).foldl jnS s) m (onel m b)) (evT (by omega) (evT (by omega) (evS rfl (evT (by omega) (evT (by simp; omega) ?_))))) ?_
  · rw [Int.toNat_natCast, Int.toNat_natCast]
    exact specJoined_l0 hV m 0 _ (by omega) (by simp [onel])
  · have hrm : r < m := hr.1.lt hV.okc hb
    exact specRoot_l0 _ r (by omega) (by omega) ((h2 r).2 hr.1) (fun j hj => hr.2 j ((h2 j).1 hj)) r 0 (by omega)

end Go.Proofs.Ytegnghbgkiddoaa.Q
