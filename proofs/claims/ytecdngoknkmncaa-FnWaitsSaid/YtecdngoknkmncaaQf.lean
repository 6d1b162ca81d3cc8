/- Plain lemmas on what the printed functions compute (seat Ytecdngoknkmncaa, module Qf). Conditions: each lemma's own. -/
import Derived.Test.YtecdngoknkmncaaQa
import Derived.Test.YtecdngoknkmncaaPA0
import Derived.Test.YtecdngoknkmncaaPA12
import Derived.Test.YtecdngoknkmncaaPA14
import Derived.Test.YtecdngoknkmncaaPA15
import Derived.Test.YtecdngoknkmncaaPA8
set_option linter.unusedVariables false
set_option linter.unusedSimpArgs false
namespace Go.Proofs.Ytecdngoknkmncaa.Q
open Go Go.RowKit Go.Proofs.Ytecdngoknkmncaa.PA Go.Proofs.YtecdngoknkmncaaW.PrintWords Go.Proofs.YtecdngoknkmncaaW.PrintLast

/-! ### jobs -/
def jok (n : Nat) (x : S50) : Bool := decide (0 ≤ x.f0 ∧ x.f0 ≤ (n : Int) - 1) && decide (1 ≤ x.f1 ∧ x.f1 ≤ 9)
def jv (w : List Int) (js : List S50) : Bool := wok w && (decide ((js.length : Int) ≤ 60) && js.all (jok w.length))
theorem implJobs_eq (w : List Int) (js : List S50) : impl_JobsValid.f w js = some (jv w js) := rfl
theorem rd50_at (l : List S50) (i : Nat) (h : i < l.length) : rd_T50 l (i : Int) = l[i] := by
  simp [rd_T50, List.getD_eq_getElem?_getD, h]
theorem specJobs_l0 (w : List Int) (hw : w.length ≤ 1000000000000) (js : List S50) (hj : js.length ≤ 1000000000000) : ∀ d i : Nat, i + d = js.length →
    Ev (fun k => spec_JobsValid.l0 k w js (i : Int)) ((js.drop i).all (jok w.length) && (wok w && decide ((js.length : Int) ≤ 60))) := by
  intro d
  induction d with
  | zero =>
    intro i hi
    rw [List.drop_of_length_le (by omega), List.all_nil, Bool.true_and]
    refine Ev.step (fun k => by rw [spec_JobsValid.l0]) ?_
    refine evF (by omega) (Ev.bind (specWeights_ev w hw) ?_)
    by_cases h : wok w = true
    · rw [h, Bool.true_and]
      exact evT rfl (Ev.now _)
    · rw [Bool.not_eq_true] at h
      rw [h, Bool.false_and]
      exact evF (by decide) (Ev.now _)
  | succ d ih =>
    intro i hi
    have hn := ih (i + 1) (by omega)
    rw [List.drop_eq_getElem_cons (show i < js.length by omega), List.all_cons]
    refine Ev.step (fun k => by rw [spec_JobsValid.l0]) ?_
    refine evT (by omega) (evT (by omega) ?_)
    rw [rd50_at js i (by omega), show wrap64 ((i : Int) + 1) = ((i + 1 : Nat) : Int) by rw [w64 (by omega) (by omega)]; omega, w64 (x := (w.length : Int) - 1) (by omega) (by omega)]
    refine evS (l1In_eq _ _ _) ?_
    show Ev _ (((decide (0 ≤ js[i].f0 ∧ js[i].f0 ≤ (w.length : Int) - 1) && decide (1 ≤ js[i].f1 ∧ js[i].f1 ≤ 9)) && _) && _)
    by_cases h : 0 ≤ js[i].f0 ∧ js[i].f0 ≤ (w.length : Int) - 1
    · rw [decide_eq_true h, Bool.true_and]
      refine evT rfl (evS (l1In_eq _ _ _) ?_)
      by_cases h2 : 1 ≤ js[i].f1 ∧ js[i].f1 ≤ 9
      · rw [decide_eq_true h2, Bool.true_and]
        exact evT rfl hn
      · rw [decide_eq_false h2, Bool.false_and, Bool.false_and]
        exact evF (by decide) (Ev.now _)
    · rw [decide_eq_false h, Bool.false_and, Bool.false_and, Bool.false_and]
      exact evF (by decide) (Ev.now _)
theorem specJobs_ev (w : List Int) (hw : w.length ≤ 1000000000000) (js : List S50) (hj : js.length ≤ 1000000000000) : Ev (fun k => spec_JobsValid.f k w js) (jv w js) := by
  simp only [spec_JobsValid.f]
  refine evE (specJobs_l0 w hw js hj js.length 0 (by omega)) ?_
  rw [List.drop_zero]
  unfold jv
  cases wok w <;> cases js.all (jok w.length) <;> cases decide ((js.length : Int) ≤ 60) <;> rfl

/-! ### the fair order ends -/
def und (js : List S50) (dn : List Bool) (i : Nat) : Prop := i < js.length ∧ dn[i]? = some false
def cnt0 : List Bool → Nat
  | [] => 0
  | b :: r => (if b = true then 0 else 1) + cnt0 r
theorem cnt0_set : ∀ (l : List Bool) (i : Nat), l[i]? = some false → cnt0 (l.set i true) + 1 = cnt0 l := by
  intro l
  induction l with
  | nil => intro i h; simp at h
  | cons b r ih =>
    intro i h
    cases i with
    | zero =>
      obtain rfl : b = false := by simpa using h
      show (if true = true then 0 else 1) + cnt0 r + 1 = (if false = true then 0 else 1) + cnt0 r
      rw [if_pos rfl, if_neg (by decide)]
      omega
    | succ i =>
      have := ih i (by simpa using h)
      show (if b = true then 0 else 1) + cnt0 (r.set i true) + 1 = (if b = true then 0 else 1) + cnt0 r
      omega
theorem cnt0_pos : ∀ (l : List Bool), 0 < cnt0 l → ∃ i : Nat, i < l.length ∧ l[i]? = some false := by
  intro l
  induction l with
  | nil => intro h; exact absurd h (Nat.lt_irrefl 0)
  | cons b r ih =>
    intro h
    cases b with
    | false => exact ⟨0, by simp, rfl⟩
    | true =>
      have h' : 0 < 0 + cnt0 r := h
      obtain ⟨i, h1, h2⟩ := ih (by omega)
      exact ⟨i + 1, by simpa using h1, by simpa using h2⟩
theorem next_l0 (js : List S50) (hj : js.length ≤ 60) (dn : List Bool) (hd : dn.length = js.length) (c : Int) : ∀ d i : Nat, i + d = js.length → (∀ j : Nat, j < i → und js dn j → (js.getD j z50).f0 ≠ c) →
    ∃ t, Ev (fun k => spec_l12Next.l0 k js dn c (i : Int)) t ∧ ((t = -1 ∧ ∀ j, und js dn j → (js.getD j z50).f0 ≠ c) ∨ ∃ j : Nat, t = (j : Int) ∧ und js dn j ∧ (js.getD j z50).f0 = c) := by
  intro d
  induction d with
  | zero =>
    intro i hi h
    refine ⟨-1, Ev.step (fun k => by rw [spec_l12Next.l0]) ?_, .inl ⟨rfl, fun j hu => h j (by have := hu.1; omega) hu⟩⟩
    exact evF (by omega) (Ev.now _)
  | succ d ih =>
    intro i hi h
    have hil : i < js.length := by omega
    have n1 : (i : Int) < (js.length : Int) := by omega
    have n2 : 0 ≤ (i : Int) := by omega
    have n3 : (i : Int) < (dn.length : Int) := by omega
    have e1 : wrap64 ((i : Int) + 1) = ((i + 1 : Nat) : Int) := by rw [w64 (by omega) (by omega)]; omega
    have hg : dn[i]? = some (dn[i]'(by omega)) := List.getElem?_eq_getElem (by omega)
    have hr : rd_T50 js (i : Int) = js.getD i z50 := by simp [rd_T50]
    have hb : rdOf false dn (i : Int) = dn[i]'(by omega) := rdOf_at false dn i (by omega)
    by_cases c1 : (js.getD i z50).f0 = c
    · by_cases c2 : dn[i]'(by omega) = true
      · obtain ⟨t, ht, h2⟩ := ih (i + 1) (by omega) (fun j hj2 hu => by
          by_cases e : j = i
          · subst e
            have h3 := hu.2
            rw [hg, c2] at h3
            cases h3
          · exact h j (by omega) hu)
        refine ⟨t, Ev.step (fun k => by rw [spec_l12Next.l0]) ?_, h2⟩
        refine evT n1 (evT n2 ?_)
        rw [hr, hb, e1]
        exact evT c1 (evT n3 (evT c2 ht))
      · refine ⟨(i : Int), Ev.step (fun k => by rw [spec_l12Next.l0]) ?_, .inr ⟨i, rfl, ⟨hil, by rw [hg]; simpa using c2⟩, c1⟩⟩
        refine evT n1 (evT n2 ?_)
        rw [hr, hb, e1]
        exact evT c1 (evT n3 (evF c2 (Ev.now _)))
    · obtain ⟨t, ht, h2⟩ := ih (i + 1) (by omega) (fun j hj2 hu => by
        by_cases e : j = i
        · subst e; exact c1
        · exact h j (by omega) hu)
      refine ⟨t, Ev.step (fun k => by rw [spec_l12Next.l0]) ?_, h2⟩
      refine evT n1 (evT n2 ?_)
      rw [hr, hb, e1]
      exact evF c1 ht
/-- next tells the next job of class c -/
def Nx (js : List S50) (dn : List Bool) (c t : Int) : Prop := (t = -1 ∧ ∀ j, und js dn j → (js.getD j z50).f0 ≠ c) ∨ ∃ j : Nat, t = (j : Int) ∧ und js dn j ∧ (js.getD j z50).f0 = c
theorem next_ev (js : List S50) (hj : js.length ≤ 60) (dn : List Bool) (hd : dn.length = js.length) (c : Int) : ∃ t, Ev (fun k => spec_l12Next.f k js dn c) t ∧ Nx js dn c t := by
  simp only [spec_l12Next.f]
  exact next_l0 js hj dn hd c js.length 0 (by omega) (fun j h => by omega)
/-- what a round keeps -/
structure Rd (w : List Int) (js : List S50) (out : List Int) (dn : List Bool) (cr : List Int) : Prop where
  j60 : js.length ≤ 60
  w4 : w.length ≤ 4
  sz : ∀ i : Nat, i < js.length → 1 ≤ (js.getD i z50).f1 ∧ (js.getD i z50).f1 ≤ 9 ∧ 0 ≤ (js.getD i z50).f0 ∧ (js.getD i z50).f0 < (w.length : Int)
  wt : ∀ c : Nat, c < w.length → 1 ≤ rd w (c : Int) ∧ rd w (c : Int) ≤ 9
  dl : dn.length = js.length
  cl : cr.length = w.length
  cnt : out.length + cnt0 dn = js.length
theorem Rd.out60 {w js out dn cr} (h : Rd w js out dn cr) : out.length ≤ 60 := by have := h.cnt; have := h.j60; omega
/-- all credits but that of c are small -/
def Sm (cr : List Int) (n : Nat) (c : Nat) : Prop := ∀ j : Nat, j < n → j ≠ c → 0 ≤ cr.getD j 0 ∧ cr.getD j 0 ≤ 8
def All8 (cr : List Int) (n : Nat) : Prop := ∀ j : Nat, j < n → 0 ≤ cr.getD j 0 ∧ cr.getD j 0 ≤ 8
theorem getD_set0 (l : List Int) (i j : Nat) (v : Int) (h : i < l.length) : (l.set i v).getD j 0 = if i = j then v else l.getD j 0 := by
  rw [List.getD_eq_getElem?_getD, List.getD_eq_getElem?_getD, List.getElem?_set]
  by_cases e : i = j
  · subst e; simp [h]
  · simp [e]
theorem fair_l2 (w : List Int) (js : List S50) {c : Nat} (hc : c < w.length) : ∀ (u : Nat) (out : List Int) (dn : List Bool) (cr : List Int) (t : Int), cnt0 dn ≤ u → Rd w js out dn cr → Sm cr w.length c → 0 ≤ cr.getD c 0 → cr.getD c 0 ≤ 100 → Nx js dn (c : Int) t →
    (∀ (out' : List Int) (dn' : List Bool) (cr' : List Int), Rd w js out' dn' cr' → All8 cr' w.length → cnt0 dn' ≤ cnt0 dn → ((∃ j : Nat, t = (j : Int) ∧ (js.getD j z50).f1 ≤ cr.getD c 0) → cnt0 dn' < cnt0 dn) → ∃ r, Ev (fun k => spec_FairOrder.l1 k w js out' dn' cr' ((c + 1 : Nat) : Int)) r ∧ r.length ≤ 60) →
    ∃ r, Ev (fun k => spec_FairOrder.l2 k w js out dn cr (c : Int) t) r ∧ r.length ≤ 60 := by
  intro u
  induction u with
  | zero =>
    intro out dn cr t hu hR hS h0 h1 hN hn
    have hcr : (c : Int) < (cr.length : Int) := by rw [hR.cl]; omega
    have hw4 := hR.w4
    have e1 : wrap64 ((c : Int) + 1) = ((c + 1 : Nat) : Int) := by rw [w64 (by omega) (by omega)]; omega
    rcases hN with ⟨rfl, hN⟩ | ⟨j, rfl, hj, _⟩
    · have hA : All8 (cr.set c 0) w.length := fun j hj => by
        rw [getD_set0 cr c j 0 (by rw [hR.cl]; exact hc)]
        by_cases e : c = j
        · rw [if_pos e]; omega
        · rw [if_neg e]; exact hS j hj (fun h => e h.symm)
      obtain ⟨r, hr, hl⟩ := hn out dn (cr.set c 0) ⟨hR.j60, hR.w4, hR.sz, hR.wt, hR.dl, by rw [List.length_set]; exact hR.cl, hR.cnt⟩ hA (Nat.le_refl _) (fun ⟨j, h, _⟩ => by omega)
      refine ⟨r, Ev.step (fun k => by rw [spec_FairOrder.l2]) ?_, hl⟩
      refine evF (by omega) (evT (by omega) (evT (by omega) (evT hcr ?_)))
      rw [Int.toNat_natCast, e1]
      exact hr
    · have := cnt0_set dn j hj.2
      omega
  | succ u ih =>
    intro out dn cr t hu hR hS h0 h1 hN hn
    have hcr : (c : Int) < (cr.length : Int) := by rw [hR.cl]; omega
    have hw4 := hR.w4
    have hj60 := hR.j60
    have hol := hR.out60
    have e1 : wrap64 ((c : Int) + 1) = ((c + 1 : Nat) : Int) := by rw [w64 (by omega) (by omega)]; omega
    have hrc : rd cr (c : Int) = cr.getD c 0 := by simp [rd]
    rcases hN with ⟨rfl, hN⟩ | ⟨j, rfl, hj, hjc⟩
    · have hA : All8 (cr.set c 0) w.length := fun j hj => by
        rw [getD_set0 cr c j 0 (by rw [hR.cl]; exact hc)]
        by_cases e : c = j
        · rw [if_pos e]; omega
        · rw [if_neg e]; exact hS j hj (fun h => e h.symm)
      obtain ⟨r, hr, hl⟩ := hn out dn (cr.set c 0) ⟨hR.j60, hR.w4, hR.sz, hR.wt, hR.dl, by rw [List.length_set]; exact hR.cl, hR.cnt⟩ hA (Nat.le_refl _) (fun ⟨j, h, _⟩ => by omega)
      refine ⟨r, Ev.step (fun k => by rw [spec_FairOrder.l2]) ?_, hl⟩
      refine evF (by omega) (evT (by omega) (evT (by omega) (evT hcr ?_)))
      rw [Int.toNat_natCast, e1]
      exact hr
    · have hsz := hR.sz j hj.1
      have hr50 : rd_T50 js (j : Int) = js.getD j z50 := by simp [rd_T50]
      have n1 : (j : Int) < (js.length : Int) := Int.ofNat_lt.2 hj.1
      have n2 : 0 ≤ (j : Int) := Int.natCast_nonneg j
      have n3 : (j : Int) < (dn.length : Int) := by rw [hR.dl]; exact n1
      by_cases hs : (js.getD j z50).f1 ≤ cr.getD c 0
      · have hcs := cnt0_set dn j hj.2
        have hdl : (dn.set j true).length = js.length := by rw [List.length_set]; exact hR.dl
        obtain ⟨t2, ht2, hN2⟩ := next_ev js hj60 (dn.set j true) hdl (c : Int)
        have e2 : wrap64 (rd cr (c : Int) - (js.getD j z50).f1) = cr.getD c 0 - (js.getD j z50).f1 := by rw [hrc, w64 (by omega) (by omega)]
        have hcl : c < cr.length := by rw [hR.cl]; exact hc
        have hR2 : Rd w js (out ++ [(j : Int)]) (dn.set j true) (cr.set c (cr.getD c 0 - (js.getD j z50).f1)) := ⟨hR.j60, hR.w4, hR.sz, hR.wt, hdl, by rw [List.length_set]; exact hR.cl, by rw [List.length_append, List.length_singleton]; have := hR.cnt; omega⟩
        obtain ⟨r, hr, hl⟩ := ih (out ++ [(j : Int)]) (dn.set j true) (cr.set c (cr.getD c 0 - (js.getD j z50).f1)) t2 (by omega) hR2
          (fun q hq hqc => by rw [getD_set0 cr c q _ hcl, if_neg (fun h => hqc h.symm)]; exact hS q hq hqc)
          (by rw [getD_set0 cr c c _ hcl, if_pos rfl]; omega) (by rw [getD_set0 cr c c _ hcl, if_pos rfl]; omega) hN2
          (fun out' dn' cr' a1 a2 a3 a4 => hn out' dn' cr' a1 a2 (by omega) (fun _ => by omega))
        refine ⟨r, Ev.step (fun k => by rw [spec_FairOrder.l2]) ?_, hl⟩
        rw [hr50]
        refine evT n2 (evT n2 (evT n1 (evT (by omega) (evT hcr (evT (by rw [hrc]; exact hs) (evT n3 (evS rfl (evT (by omega) (Ev.bind ht2 ?_)))))))))
        rw [e2, Int.toNat_natCast]
        exact hr
      · have hA : All8 cr w.length := fun q hq => by
          by_cases e : q = c
          · subst e; omega
          · exact hS q hq e
        obtain ⟨r, hr, hl⟩ := hn out dn cr hR hA (Nat.le_refl _) (fun ⟨j2, h, h3⟩ => by
          obtain rfl : j = j2 := by omega
          exact absurd h3 hs)
        refine ⟨r, Ev.step (fun k => by rw [spec_FairOrder.l2]) ?_, hl⟩
        rw [hr50]
        refine evT n2 (evT n2 (evT n1 (evT (by omega) (evT hcr (evF (by rw [hrc]; exact hs) (evF (by omega) ?_))))))
        rw [e1]
        exact hr
theorem fair_l1 (w : List Int) (js : List S50) (u0 : Nat) (hn : ∀ (out' : List Int) (dn' : List Bool) (cr' : List Int), Rd w js out' dn' cr' → All8 cr' w.length → cnt0 dn' < u0 → ∃ r, Ev (fun k => spec_FairOrder.l0 k w js out' dn' cr') r ∧ r.length ≤ 60) :
    ∀ (d c : Nat) (out : List Int) (dn : List Bool) (cr : List Int), c + d = w.length → Rd w js out dn cr → All8 cr w.length → (cnt0 dn < u0 ∨ (cnt0 dn ≤ u0 ∧ ∃ i, und js dn i ∧ (c : Int) ≤ (js.getD i z50).f0)) →
    ∃ r, Ev (fun k => spec_FairOrder.l1 k w js out dn cr (c : Int)) r ∧ r.length ≤ 60 := by
  intro d
  induction d with
  | zero =>
    intro c out dn cr hc hR hA hp
    have hlt : cnt0 dn < u0 := hp.elim id (fun ⟨_, i, hi, hic⟩ => by have := (hR.sz i hi.1).2.2.2; omega)
    obtain ⟨r, hr, hl⟩ := hn out dn cr hR hA hlt
    refine ⟨r, Ev.step (fun k => by rw [spec_FairOrder.l1]) ?_, hl⟩
    exact evF (by omega) hr
  | succ d ih =>
    intro c out dn cr hc hR hA hp
    have hw4 := hR.w4
    have hcw : c < w.length := by omega
    have e1 : wrap64 ((c : Int) + 1) = ((c + 1 : Nat) : Int) := by rw [w64 (by omega) (by omega)]; omega
    obtain ⟨t, ht, hN⟩ := next_ev js hR.j60 dn hR.dl (c : Int)
    have hcr : (c : Int) < (cr.length : Int) := by rw [hR.cl]; omega
    by_cases hneg : t < 0
    · have hN2 : ∀ j, und js dn j → (js.getD j z50).f0 ≠ (c : Int) := by
        rcases hN with ⟨_, h⟩ | ⟨j, h, _⟩
        · exact h
        · omega
      obtain ⟨r, hr, hl⟩ := ih (c + 1) out dn cr (by omega) hR hA (hp.imp id (fun ⟨h1, i, hi, hic⟩ => ⟨h1, i, hi, by have := hN2 i hi; omega⟩))
      refine ⟨r, Ev.step (fun k => by rw [spec_FairOrder.l1]) ?_, hl⟩
      refine evT (by omega) (Ev.bind ht (evT hneg ?_))
      rw [e1]
      exact hr
    · obtain ⟨j, rfl, hj, hjc⟩ : ∃ j : Nat, t = (j : Int) ∧ und js dn j ∧ (js.getD j z50).f0 = (c : Int) := by
        rcases hN with ⟨h, _⟩ | h
        · omega
        · exact h
      have hwt := hR.wt c hcw
      have h8 := hA c hcw
      have hrc : rd cr (c : Int) = cr.getD c 0 := by simp [rd]
      have hcl : c < cr.length := by rw [hR.cl]; exact hcw
      have e2 : wrap64 (rd cr (c : Int) + wrap64 (9 * rd w (c : Int))) = cr.getD c 0 + 9 * rd w (c : Int) := by rw [hrc, w64 (x := 9 * rd w (c : Int)) (by omega) (by omega), w64 (by omega) (by omega)]
      have hsz := hR.sz j hj.1
      have e3 : (cr.set c (cr.getD c 0 + 9 * rd w (c : Int))).getD c 0 = cr.getD c 0 + 9 * rd w (c : Int) := by rw [getD_set0 cr c c _ hcl, if_pos rfl]
      obtain ⟨r, hr, hl⟩ := fair_l2 w js hcw (cnt0 dn) out dn (cr.set c (cr.getD c 0 + 9 * rd w (c : Int))) (j : Int) (Nat.le_refl _) ⟨hR.j60, hR.w4, hR.sz, hR.wt, hR.dl, by rw [List.length_set]; exact hR.cl, hR.cnt⟩
        (fun q hq hqc => by rw [getD_set0 cr c q _ hcl, if_neg (fun h => hqc h.symm)]; exact hA q hq) (by rw [e3]; omega) (by rw [e3]; omega) (.inr ⟨j, rfl, hj, hjc⟩)
        (fun out' dn' cr' a1 a2 a3 a4 => ih (c + 1) out' dn' cr' (by omega) a1 a2 (.inl (by
          have := a4 ⟨j, rfl, by rw [e3]; omega⟩
          rcases hp with hp | ⟨hp, _⟩ <;> omega)))
      refine ⟨r, Ev.step (fun k => by rw [spec_FairOrder.l1]) ?_, hl⟩
      refine evT (by omega) (Ev.bind ht (evF hneg (evT (by omega) (evT hcr ?_))))
      rw [e2, Int.toNat_natCast]
      exact hr
theorem fair_l0 (w : List Int) (js : List S50) : ∀ (u : Nat) (out : List Int) (dn : List Bool) (cr : List Int), cnt0 dn ≤ u → Rd w js out dn cr → All8 cr w.length → ∃ r, Ev (fun k => spec_FairOrder.l0 k w js out dn cr) r ∧ r.length ≤ 60 := by
  intro u
  induction u with
  | zero =>
    intro out dn cr hu hR hA
    refine ⟨out, Ev.step (fun k => by rw [spec_FairOrder.l0]) ?_, hR.out60⟩
    exact evF (by have := hR.cnt; omega) (Ev.now _)
  | succ u ih =>
    intro out dn cr hu hR hA
    by_cases hp : 0 < cnt0 dn
    · obtain ⟨i, hi, hi2⟩ := cnt0_pos dn hp
      have hil : i < js.length := by rw [← hR.dl]; exact hi
      obtain ⟨r, hr, hl⟩ := fair_l1 w js (cnt0 dn) (fun out' dn' cr' a1 a2 a3 => ih out' dn' cr' (by omega) a1 a2) w.length 0 out dn cr (by omega) hR hA (.inr ⟨Nat.le_refl _, i, ⟨hil, hi2⟩, (hR.sz i hil).2.2.1⟩)
      refine ⟨r, Ev.step (fun k => by rw [spec_FairOrder.l0]) ?_, hl⟩
      exact evT (by have := hR.cnt; omega) hr
    · refine ⟨out, Ev.step (fun k => by rw [spec_FairOrder.l0]) ?_, hR.out60⟩
      exact evF (by have := hR.cnt; omega) (Ev.now _)
theorem cnt0_rep (n : Nat) : cnt0 (List.replicate n false) = n := by
  induction n with
  | zero => rfl
  | succ n ih =>
    show (if false = true then 0 else 1) + cnt0 (List.replicate n false) = n + 1
    rw [if_neg (by decide), ih]
    omega
theorem fair_ev (w : List Int) (hw : w.length ≤ 1000000) (js : List S50) (hj : js.length ≤ 1000000) : ∃ r, Ev (fun k => spec_FairOrder.f k w js) r ∧ r.length ≤ 60 := by
  by_cases hv : jv w js = true
  · have hv2 := hv
    simp only [jv, Bool.and_eq_true, decide_eq_true_eq, List.all_eq_true] at hv2
    obtain ⟨hw1, hj6, hall⟩ := hv2
    obtain ⟨w1, w4, hwt⟩ := wok_elim hw1
    have hR : Rd w js [] (List.replicate js.length false) (List.replicate w.length 0) := by
      refine ⟨by omega, w4, fun i hi => ?_, fun c hc => ?_, by simp, by simp, by rw [cnt0_rep]; simp⟩
      · have e : js.getD i z50 = js[i] := by simp [List.getD_eq_getElem?_getD, hi]
        have := hall _ (List.getElem_mem hi)
        simp only [jok, Bool.and_eq_true, decide_eq_true_eq] at this
        rw [e]
        omega
      · exact hwt _ (rd_mem w (c : Int) (by omega) (by omega))
    obtain ⟨r, hr, hl⟩ := fair_l0 w js js.length [] _ _ (by rw [cnt0_rep]; exact Nat.le_refl _) hR (fun j hj => by
      have e : (List.replicate w.length (0 : Int)).getD j 0 = 0 := by simp [List.getD_eq_getElem?_getD, hj]
      rw [e]; omega)
    refine ⟨r, ?_, hl⟩
    simp only [spec_FairOrder.f]
    refine evS rfl (Ev.bind (specJobs_ev w (by omega) js (by omega)) (evT hv (evT (by omega) (evT (by omega) (evT (by omega) (evT (by omega) ?_))))))
    rw [Int.toNat_natCast, Int.toNat_natCast]
    exact hr
  · refine ⟨[], ?_, by simp⟩
    simp only [spec_FairOrder.f]
    exact evS rfl (Ev.bind (specJobs_ev w (by omega) js (by omega)) (evF hv (Ev.now _)))

end Go.Proofs.Ytecdngoknkmncaa.Q
