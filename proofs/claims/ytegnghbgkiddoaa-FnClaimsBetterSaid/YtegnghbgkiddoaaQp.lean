/- Plain lemmas on what the printed functions compute (seat Ytegnghbgkiddoaa, module Qp). Conditions: each lemma's own. -/
import Derived.Test.YtegnghbgkiddoaaQo
import Derived.Test.YtegnghbgkiddoaaPA0
import Derived.Test.YtegnghbgkiddoaaPA17
import Derived.Test.YtegnghbgkiddoaaPA27
import Derived.Test.YtegnghbgkiddoaaPA28
import Derived.Test.YtegnghbgkiddoaaPA30
import Derived.Test.YtegnghbgkiddoaaPA32
set_option linter.unusedVariables false
set_option linter.unusedSimpArgs false
namespace Go.Proofs.Ytegnghbgkiddoaa.Q
open Go Go.RowKit Go.Proofs.Ytegnghbgkiddoaa.PA Go.Proofs.YtegnghbgkiddoaaW.PrintWords Go.Proofs.YtegnghbgkiddoaaW.PrintLast

/-! ### the next claims, and the claims after some rounds: what both return -/
def nextR (n : Int) (l : List S44) (rows : List (List Int)) : List (List Int) :=
  if cv n l = true ∧ (rows.length : Int) = n ∧ rows.all okRow = true then stC n.toNat (nextC (l.map cbOf) (rows.map cmOf)) else []
theorem rows_back {rows : List (List Int)} (h : rows.all okRow = true) : (rows.map cmOf).map cmL = rows := by
  rw [List.map_map]
  conv => rhs; rw [← List.map_id rows]
  exact List.map_congr_left fun c hc => (okRow_of (List.all_eq_true.1 h c hc)).1.symm
theorem rows_gd {m : Nat} {rows : List (List Int)} (hl : rows.length = m) (h : rows.all okRow = true) : Gd m (rows.map cmOf) := by
  refine ⟨by simpa using hl, fun o ho => ?_⟩
  have e : getC (rows.map cmOf) o = cmOf (rows[o]'(by omega)) := by simp [getC, List.getD_eq_getElem?_getD, show o < rows.length by omega]
  rw [e]
  exact (okRow_of (List.all_eq_true.1 h _ (List.getElem_mem _))).2
theorem L5_at (rows : List (List Int)) (i : Nat) (h : i < rows.length) : rd_L5 rows (i : Int) = rows[i] := by
  simp [rd_L5, List.getD_eq_getElem?_getD, h]
theorem implNext_ev (n : Int) (l : List S44) (rows : List (List Int)) : Ev (fun k => impl_NextClaims.f k n l rows) (nextR n l rows) := by
  have bad : Ev (fun k => impl_NextClaims.j0 k n l rows true) ([] : List (List Int)) := by
    refine Ev.step (fun k => by rw [impl_NextClaims.j0]) ?_
    exact evT rfl (Ev.now _)
  simp only [impl_NextClaims.f]
  refine evS (implCables_eq _ _) ?_
  unfold nextR
  by_cases hc : cv n l = true
  · refine evT hc ?_
    by_cases hl : (rows.length : Int) = n
    · refine evT hl (evS (a := rows.all okRow) rfl ?_)
      by_cases ha : rows.all okRow = true
      · rw [if_pos ⟨hc, hl, ha⟩, ha]
        obtain ⟨m, rfl, hV⟩ := cv_elim hc
        have hml : rows.length = m := by omega
        refine Ev.step (fun k => by rw [impl_NextClaims.j0]) ?_
        refine evF (by decide) (Ev.bind (implFirst_ev _) ?_)
        have e0 : rows0 (m : Int) = stC m (fun j => hearL (rows.map cmOf) j 0 ((l.map cbOf).take 0) (own j)) := by
          unfold rows0
          rw [if_pos ⟨by have := hV.m1; omega, by have := hV.m8; omega⟩, Int.toNat_natCast]
          rfl
        have hr := implNext_l0 hV (rows_gd hml ha) l.length 0 (by omega)
        rw [rows_back ha, ← e0] at hr
        exact hr
      · rw [if_neg (fun h => ha h.2.2)]
        rw [Bool.not_eq_true] at ha
        rw [ha]
        exact bad
    · rw [if_neg (fun h => hl h.2.1)]
      exact evF hl bad
  · rw [if_neg (fun h => hc h.1)]
    exact evF hc bad
theorem specNext_l0 {m : Nat} (hm8 : m ≤ 8) (l : List S44) {rows : List (List Int)} (hml : rows.length = m) {R : List (List Int)} (ha : rows.all okRow = true)
    (hn : Ev (fun k => (spec_FirstClaims.f k (m : Int)).bind fun t => spec_NextClaims.l1 k (m : Int) l rows t 0) R) : ∀ d i : Nat, i + d = m → Ev (fun k => spec_NextClaims.l0 k (m : Int) l rows (i : Int)) R := by
  intro d
  induction d with
  | zero =>
    intro i hi
    refine Ev.step (fun k => by rw [spec_NextClaims.l0]) ?_
    exact evF (by omega) hn
  | succ d ih =>
    intro i hi
    have ok := List.all_eq_true.1 ha _ (List.getElem_mem (show i < rows.length by omega))
    simp only [okRow, Bool.and_eq_true, decide_eq_true_eq] at ok
    refine Ev.step (fun k => by rw [spec_NextClaims.l0]) ?_
    refine evT (by omega) (evT (by omega) (evT (by omega) ?_))
    rw [L5_at rows i (by omega)]
    refine evT (by omega) (evT (by omega) (evS (l1In_eq _ _ _) (evT (decide_eq_true ok.2) ?_)))
    rw [show wrap64 ((i : Int) + 1) = ((i + 1 : Nat) : Int) by rw [w64 (by omega) (by omega)]; omega]
    exact ih (i + 1) (by omega)
theorem specNext_bad {m : Nat} (hm8 : m ≤ 8) (l : List S44) {rows : List (List Int)} (hml : rows.length = m) : ∀ d i : Nat, i + d = m → (rows.drop i).all okRow = false → Ev (fun k => spec_NextClaims.l0 k (m : Int) l rows (i : Int)) ([] : List (List Int)) := by
  intro d
  induction d with
  | zero =>
    intro i hi ha
    rw [List.drop_of_length_le (by omega)] at ha
    cases ha
  | succ d ih =>
    intro i hi ha
    rw [List.drop_eq_getElem_cons (show i < rows.length by omega), List.all_cons] at ha
    refine Ev.step (fun k => by rw [spec_NextClaims.l0]) ?_
    refine evT (by omega) (evT (by omega) (evT (by omega) ?_))
    rw [L5_at rows i (by omega), show wrap64 ((i : Int) + 1) = ((i + 1 : Nat) : Int) by rw [w64 (by omega) (by omega)]; omega]
    by_cases h4 : rows[i].length = 4
    · refine evT (by omega) (evT (by omega) (evS (l1In_eq _ _ _) ?_))
      by_cases hd : 0 ≤ rd rows[i] 1 ∧ rd rows[i] 1 ≤ 10000
      · refine evT (decide_eq_true hd) (ih (i + 1) (by omega) ?_)
        have hok : okRow rows[i] = true := by
          simp only [okRow, Bool.and_eq_true, decide_eq_true_eq]
          exact ⟨h4, hd⟩
        rw [hok, Bool.true_and] at ha
        exact ha
      · exact evF (by simp only [decide_eq_true_eq]; exact hd) (Ev.now _)
    · exact evF (by omega) (Ev.now _)
theorem specNext_ev (n : Int) (l : List S44) (rows : List (List Int)) : Ev (fun k => spec_NextClaims.f k n l rows) (nextR n l rows) := by
  simp only [spec_NextClaims.f]
  refine Ev.bind (specCables_ev _ _) ?_
  unfold nextR
  by_cases hc : cv n l = true
  · refine evT hc (Ev.step (fun k => by rw [spec_NextClaims.j0]) ?_)
    by_cases hl : (rows.length : Int) = n
    · refine evF (by simp [hl]) ?_
      obtain ⟨m, rfl, hV⟩ := cv_elim hc
      have hml : rows.length = m := by omega
      have hm8 := hV.m8
      by_cases ha : rows.all okRow = true
      · rw [if_pos ⟨hc, hl, ha⟩, Int.toNat_natCast]
        refine specNext_l0 hm8 l hml ha (Ev.bind (specFirst_ev _) ?_) m 0 (by omega)
        have e0 : rows0 (m : Int) = stC m (fun j => if j < 0 then nextC (l.map cbOf) (rows.map cmOf) j else own j) := by
          unfold rows0
          rw [if_pos ⟨by have := hV.m1; omega, by omega⟩, Int.toNat_natCast]
          exact stC_congr fun j _ => by rw [if_neg (by omega)]
        have hr := specNext_l1 hV (rows_gd hml ha) m 0 (by omega)
        rw [rows_back ha, ← e0] at hr
        exact hr
      · rw [if_neg (fun h => ha h.2.2)]
        exact specNext_bad hm8 l hml m 0 (by omega) (by simpa using ha)
    · rw [if_neg (fun h => hl h.2.1)]
      exact evT (by simpa using hl) (Ev.now _)
  · rw [if_neg (fun h => hc h.1)]
    refine evF hc (Ev.step (fun k => by rw [spec_NextClaims.j0]) ?_)
    exact evT rfl (Ev.now _)
def clR (m : Nat) (L : List Cb) (j : Nat) : List (List Int) := (claimsL m L j).map cmL
theorem clR_len (m : Nat) (L : List Cb) (j : Nat) : (clR m L j).length = m := by simp [clR, claims_len]
theorem clR_zero (m : Nat) (L : List Cb) : clR m L 0 = stC m own := by
  show (firstL m).map cmL = _
  unfold firstL stC
  rw [List.map_map]
  rfl
theorem clR_ok {m : Nat} {l : List S44} (hV : Vd m l) {j : Nat} (hj : j ≤ 100) : (clR m (l.map cbOf) j).all okRow = true := by
  refine List.all_eq_true.2 fun c hc => ?_
  obtain ⟨x, hx, rfl⟩ := List.mem_map.1 hc
  obtain ⟨o, ho, rfl⟩ := List.getElem_of_mem hx
  have hom : o < m := by rw [claims_len] at ho; exact ho
  have := claims_small hV.okc j o hom
  have e : getC (claimsL m (l.map cbOf) j) o = (claimsL m (l.map cbOf) j)[o] := by simp [getC, List.getD_eq_getElem?_getD, ho]
  rw [e] at this
  exact okRow_cmL _ ⟨this.1, by omega⟩
theorem clR_next {m : Nat} {l : List S44} (hV : Vd m l) (hc : cv (m : Int) l = true) {j : Nat} (hj : j ≤ 100) : nextR (m : Int) l (clR m (l.map cbOf) j) = clR m (l.map cbOf) (j + 1) := by
  unfold nextR
  rw [if_pos ⟨hc, by rw [clR_len], clR_ok hV hj⟩, Int.toNat_natCast]
  have e : (clR m (l.map cbOf) j).map cmOf = claimsL m (l.map cbOf) j := by
    unfold clR
    rw [List.map_map]
    conv => rhs; rw [← List.map_id (claimsL m (l.map cbOf) j)]
    exact List.map_congr_left fun x _ => rfl
  rw [e]
  unfold clR
  rw [claims_succ]
  unfold nextL stC
  rw [List.map_map]
  rfl
def afterR (n : Int) (l : List S44) (r : Int) : List (List Int) := if cv n l = true ∧ 0 ≤ r ∧ r ≤ 100 then clR n.toNat (l.map cbOf) r.toNat else []
theorem implAfter_l0 {m : Nat} {l : List S44} (hV : Vd m l) (hc : cv (m : Int) l = true) {r : Nat} (hr : r ≤ 100) : ∀ d i : Nat, i + d = r → Ev (fun k => impl_ClaimsAfter.l0 k (m : Int) l (clR m (l.map cbOf) i) (r : Int) (i : Int)) (clR m (l.map cbOf) r) := by
  intro d
  induction d with
  | zero =>
    intro i hi
    obtain rfl : i = r := by omega
    refine Ev.step (fun k => by rw [impl_ClaimsAfter.l0]) ?_
    exact evF (by omega) (Ev.now _)
  | succ d ih =>
    intro i hi
    refine Ev.step (fun k => by rw [impl_ClaimsAfter.l0]) ?_
    refine evT (by omega) (Ev.bind (implNext_ev _ _ _) ?_)
    rw [clR_next hV hc (by omega), show wrap64 ((i : Int) + 1) = ((i + 1 : Nat) : Int) by rw [w64 (by omega) (by omega)]; omega]
    exact ih (i + 1) (by omega)
theorem specAfter_l0 {m : Nat} {l : List S44} (hV : Vd m l) (hc : cv (m : Int) l = true) {r : Nat} (hr : r ≤ 100) : ∀ d i : Nat, i + d = r → Ev (fun k => spec_ClaimsAfter.l0 k (m : Int) l (clR m (l.map cbOf) i) (r : Int) (i : Int)) (clR m (l.map cbOf) r) := by
  intro d
  induction d with
  | zero =>
    intro i hi
    obtain rfl : i = r := by omega
    refine Ev.step (fun k => by rw [spec_ClaimsAfter.l0]) ?_
    exact evF (by omega) (Ev.now _)
  | succ d ih =>
    intro i hi
    refine Ev.step (fun k => by rw [spec_ClaimsAfter.l0]) ?_
    refine evT (by omega) (Ev.bind (specNext_ev _ _ _) ?_)
    rw [clR_next hV hc (by omega), show wrap64 ((i : Int) + 1) = ((i + 1 : Nat) : Int) by rw [w64 (by omega) (by omega)]; omega]
    exact ih (i + 1) (by omega)
theorem rows0_eq {m : Nat} {l : List S44} (hV : Vd m l) : rows0 (m : Int) = clR m (l.map cbOf) 0 := by
  unfold rows0
  rw [if_pos ⟨by have := hV.m1; omega, by have := hV.m8; omega⟩, Int.toNat_natCast, clR_zero]
theorem implAfter_ev (n : Int) (l : List S44) (r : Int) : Ev (fun k => impl_ClaimsAfter.f k n l r) (afterR n l r) := by
  have bad : Ev (fun k => impl_ClaimsAfter.j0 k n l r true) ([] : List (List Int)) := by
    refine Ev.step (fun k => by rw [impl_ClaimsAfter.j0]) ?_
    exact evT rfl (Ev.now _)
  simp only [impl_ClaimsAfter.f]
  refine evS (implCables_eq _ _) ?_
  unfold afterR
  by_cases hc : cv n l = true
  · refine evT hc (evS (within_eq _ _ _) ?_)
    by_cases hr : 0 ≤ r ∧ r ≤ 100
    · rw [if_pos ⟨hc, hr⟩, decide_eq_true hr]
      obtain ⟨m, rfl, hV⟩ := cv_elim hc
      obtain ⟨r, rfl⟩ := Int.eq_ofNat_of_zero_le hr.1
      refine Ev.step (fun k => by rw [impl_ClaimsAfter.j0]) ?_
      refine evF (by decide) (Ev.bind (implFirst_ev _) ?_)
      rw [rows0_eq hV, Int.toNat_natCast, Int.toNat_natCast]
      exact implAfter_l0 hV hc (by omega) r 0 (by omega)
    · rw [if_neg (fun h => hr h.2), decide_eq_false hr]
      exact bad
  · rw [if_neg (fun h => hc h.1)]
    exact evF hc bad
theorem specAfter_ev (n : Int) (l : List S44) (r : Int) : Ev (fun k => spec_ClaimsAfter.f k n l r) (afterR n l r) := by
  have bad : Ev (fun k => spec_ClaimsAfter.j0 k n l r true) ([] : List (List Int)) := by
    refine Ev.step (fun k => by rw [spec_ClaimsAfter.j0]) ?_
    exact evT rfl (Ev.now _)
  simp only [spec_ClaimsAfter.f]
  refine Ev.bind (specCables_ev _ _) ?_
  unfold afterR
  by_cases hc : cv n l = true
  · refine evT hc (evS (l1In_eq _ _ _) ?_)
    by_cases hr : 0 ≤ r ∧ r ≤ 100
    · rw [if_pos ⟨hc, hr⟩, decide_eq_true hr]
      obtain ⟨m, rfl, hV⟩ := cv_elim hc
      obtain ⟨r, rfl⟩ := Int.eq_ofNat_of_zero_le hr.1
      refine Ev.step (fun k => by rw [spec_ClaimsAfter.j0]) ?_
      refine evF (by decide) (Ev.bind (specFirst_ev _) ?_)
      rw [rows0_eq hV, Int.toNat_natCast, Int.toNat_natCast]
      exact specAfter_l0 hV hc (by omega) r 0 (by omega)
    · rw [if_neg (fun h => hr h.2), decide_eq_false hr]
      exact bad
  · rw [if_neg (fun h => hc h.1)]
    exact evF hc bad

end Go.Proofs.Ytegnghbgkiddoaa.Q
