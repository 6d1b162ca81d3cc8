/- Plain lemmas on what the printed functions compute (seat Ytnagdcigoaeicaa, module Qg). Conditions: each lemma's own. -/
import Derived.Test.YtnagdcigoaeicaaQa
import Derived.Test.YtnagdcigoaeicaaPA0
import Derived.Test.YtnagdcigoaeicaaPA1
import Derived.Test.YtnagdcigoaeicaaPA10
set_option linter.unusedVariables false
set_option linter.unusedSimpArgs false
namespace Go.Proofs.Ytnagdcigoaeicaa.Q
open Go Go.RowKit Go.Proofs.Ytnagdcigoaeicaa.PA Go.Proofs.YtnagdcigoaeicaaW.PrintWords Go.Proofs.YtnagdcigoaeicaaW.PrintLast

/-! ### jobs -/
def jok (n : Nat) (x : S30) : Bool := decide (0 ≤ x.f0 ∧ x.f0 ≤ (n : Int) - 1) && decide (1 ≤ x.f1 ∧ x.f1 ≤ 9)
def jv (w : List Int) (js : List S30) : Bool := wok w && (decide ((js.length : Int) ≤ 60) && js.all (jok w.length))
theorem implJobs_eq (w : List Int) (js : List S30) : impl_JobsValid.f w js = some (jv w js) := rfl
theorem rd30_at (l : List S30) (i : Nat) (h : i < l.length) : rd_T30 l (i : Int) = l[i] := by
  simp [rd_T30, List.getD_eq_getElem?_getD, h]
theorem specJobs_l0 (w : List Int) (hw : w.length ≤ 1000000000000) (js : List S30) (hj : js.length ≤ 1000000000000) : ∀ d i : Nat, i + d = js.length →
    Ev (fun k => spec_JobsValid.l0 k w js (i : Int)) ((js.drop i).all (jok w.length) && (wok w && decide ((js.length : Int) ≤ 60))) := by
  intro d
  induction d with
  | zero =>
    intro i hi
    rw [List.drop_of_length_le (by omega), List.all_nil, Bool.true_and]
    refine Ev.step (fun k => by rw [spec_JobsValid.l0]) ?_
    refine evF (by omega) (Ev.bind (specWeights_ev w hw) ?_)
    by_cases h : wok w = true
    · rw [h, Bool.true_and]
      exact evT rfl (Ev.now _)
    · rw [Bool.not_eq_true] at h
      rw [h, Bool.false_and]
      exact evF (by decide) (Ev.now _)
  | succ d ih =>
    intro i hi
    have hn := ih (i + 1) (by omega)
    rw [List.drop_eq_getElem_cons (show i < js.length by omega), List.all_cons]
    refine Ev.step (fun k => by rw [spec_JobsValid.l0]) ?_
    refine evT (by omega) (evT (by omega) ?_)
    rw [rd30_at js i (by omega), show wrap64 ((i : Int) + 1) = ((i + 1 : Nat) : Int) by rw [w64 (by omega) (by omega)]; omega, w64 (x := (w.length : Int) - 1) (by omega) (by omega)]
    refine evS (l1In_eq _ _ _) ?_
    show Ev _ (((decide (0 ≤ js[i].f0 ∧ js[i].f0 ≤ (w.length : Int) - 1) && decide (1 ≤ js[i].f1 ∧ js[i].f1 ≤ 9)) && _) && _)
    by_cases h : 0 ≤ js[i].f0 ∧ js[i].f0 ≤ (w.length : Int) - 1
    · rw [decide_eq_true h, Bool.true_and]
      refine evT rfl (evS (l1In_eq _ _ _) ?_)
      by_cases h2 : 1 ≤ js[i].f1 ∧ js[i].f1 ≤ 9
      · rw [decide_eq_true h2, Bool.true_and]
        exact evT rfl hn
      · rw [decide_eq_false h2, Bool.false_and, Bool.false_and]
        exact evF (by decide) (Ev.now _)
    · rw [decide_eq_false h, Bool.false_and, Bool.false_and, Bool.false_and]
      exact evF (by decide) (Ev.now _)
theorem specJobs_ev (w : List Int) (hw : w.length ≤ 1000000000000) (js : List S30) (hj : js.length ≤ 1000000000000) : Ev (fun k => spec_JobsValid.f k w js) (jv w js) := by
  simp only [spec_JobsValid.f]
  refine evE (specJobs_l0 w hw js hj js.length 0 (by omega)) ?_
  rw [List.drop_zero]
  unfold jv
  cases wok w <;> cases js.all (jok w.length) <;> cases decide ((js.length : Int) ≤ 60) <;> rfl

/-! ### the fair order: both make the same -/
def un (js : List S30) (dn : List Bool) (c : Int) (i : Nat) : Bool := !(dn.getD i true) && decide ((js.getD i z30).f0 = c)
def lf (p : Nat → Bool) : Nat → Nat → List Int
  | 0, _ => []
  | d + 1, i => if p i = true then (i : Int) :: lf p d (i + 1) else lf p d (i + 1)
theorem lf_congr {p p' : Nat → Bool} : ∀ d i, (∀ q, i ≤ q → q < i + d → p q = p' q) → lf p d i = lf p' d i := by
  intro d
  induction d with
  | zero => intro i _; rfl
  | succ d ih =>
    intro i h
    show (if p i = true then _ else _) = (if p' i = true then _ else _)
    rw [h i (Nat.le_refl _) (by omega), ih (i + 1) (fun q h1 h2 => h q (by omega) (by omega))]
theorem lf_none {p : Nat → Bool} : ∀ d i, (∀ q, i ≤ q → q < i + d → p q = false) → lf p d i = [] := by
  intro d
  induction d with
  | zero => intro i _; rfl
  | succ d ih =>
    intro i h
    show (if p i = true then _ else _) = _
    rw [h i (Nat.le_refl _) (by omega), if_neg (by decide), ih (i + 1) (fun q h1 h2 => h q (by omega) (by omega))]
theorem lf_first {p : Nat → Bool} {j : Nat} (hj : p j = true) : ∀ d i, i ≤ j → j < i + d → (∀ q, i ≤ q → q < j → p q = false) → lf p d i = (j : Int) :: lf (fun q => if q = j then false else p q) d i := by
  intro d
  induction d with
  | zero => intro i h1 h2; omega
  | succ d ih =>
    intro i h1 h2 h3
    show (if p i = true then (i : Int) :: lf p d (i + 1) else lf p d (i + 1)) = (j : Int) :: (if (if i = j then false else p i) = true then (i : Int) :: lf (fun q => if q = j then false else p q) d (i + 1) else lf (fun q => if q = j then false else p q) d (i + 1))
    by_cases e : i = j
    · subst e
      rw [if_pos hj, if_pos rfl, if_neg (by decide)]
      congr 1
      exact lf_congr d (i + 1) (fun q h4 _ => by rw [if_neg (by omega)])
    · rw [h3 i (Nat.le_refl _) (by omega), if_neg (by decide), if_neg e, if_neg (by decide)]
      exact ih (i + 1) (by omega) (by omega) (fun q h4 h5 => h3 q (by omega) h5)
theorem lf_snoc (p : Nat → Bool) : ∀ d i, lf p (d + 1) i = lf p d i ++ (if p (i + d) = true then [((i + d : Nat) : Int)] else []) := by
  intro d
  induction d with
  | zero => intro i; show (if p i = true then [(i : Int)] else []) = _; rfl
  | succ d ih =>
    intro i
    show (if p i = true then (i : Int) :: lf p (d + 1) (i + 1) else lf p (d + 1) (i + 1)) = (if p i = true then (i : Int) :: lf p d (i + 1) else lf p d (i + 1)) ++ _
    rw [ih (i + 1), show i + 1 + d = i + (d + 1) by omega]
    split <;> rfl
theorem lf_len (p : Nat → Bool) : ∀ d i, (lf p d i).length ≤ d := by
  intro d
  induction d with
  | zero => intro i; exact Nat.le_refl _
  | succ d ih =>
    intro i
    have := ih (i + 1)
    show (if p i = true then (i : Int) :: lf p d (i + 1) else lf p d (i + 1)).length ≤ d + 1
    split
    · rw [List.length_cons]; omega
    · omega
def lrows (n : Nat) (js : List S30) (dn : List Bool) : List (List Int) := (List.range n).map fun (c : Nat) => lf (un js dn (c : Int)) js.length 0
theorem lrows_len (n : Nat) (js : List S30) (dn : List Bool) : (lrows n js dn).length = n := by simp [lrows]
theorem lrows_at (n : Nat) (js : List S30) (dn : List Bool) (c : Nat) (h : c < n) : rd_L3 (lrows n js dn) (c : Int) = lf (un js dn (c : Int)) js.length 0 := by
  simp [rd_L3, lrows, List.getD_eq_getElem?_getD, h]
theorem un_set {js : List S30} {dn : List Bool} {j : Nat} (hj : j < dn.length) (c : Int) (q : Nat) : un js (dn.set j true) c q = if q = j then false else un js dn c q := by
  unfold un
  have e0 : (dn.set j true).getD q true = if j = q then true else dn.getD q true := by
    rw [List.getD_eq_getElem?_getD, List.getD_eq_getElem?_getD, List.getElem?_set]
    by_cases e : j = q
    · subst e; simp [hj]
    · simp [e]
  rw [e0]
  by_cases e : j = q
  · subst e; simp
  · rw [if_neg e, if_neg (fun h => e h.symm)]
theorem un_cls {js : List S30} {dn : List Bool} {c : Int} {q : Nat} (h : un js dn c q = true) : (js.getD q z30).f0 = c := by
  simp only [un, Bool.and_eq_true, decide_eq_true_eq] at h
  exact h.2
theorem lrows_set {n : Nat} {js : List S30} {dn : List Bool} {j c : Nat} (hj : j < dn.length) (hjs : j < js.length) (hu : un js dn (c : Int) j = true) (hf : ∀ q, q < j → un js dn (c : Int) q = false) :
    lrows n js (dn.set j true) = (lrows n js dn).set c ((lf (un js dn (c : Int)) js.length 0).drop 1) := by
  unfold lrows
  refine List.ext_getElem? fun m => ?_
  rw [List.getElem?_set]
  by_cases e : c = m
  · subst e
    by_cases hc : c < n
    · have e2 : lf (un js (dn.set j true) (c : Int)) js.length 0 = (lf (un js dn (c : Int)) js.length 0).drop 1 := by
        rw [lf_first hu js.length 0 (Nat.zero_le _) (by omega) (fun q _ h => hf q h), List.drop_one, List.tail_cons]
        exact lf_congr _ _ (fun q _ _ => un_set hj _ q)
      simp [hc, e2]
    · simp [hc]
  · rw [if_neg e, List.getElem?_map, List.getElem?_map]
    by_cases hm : m < n
    · have e2 : lf (un js (dn.set j true) (m : Int)) js.length 0 = lf (un js dn (m : Int)) js.length 0 := by
        refine lf_congr _ _ (fun q _ _ => ?_)
        rw [un_set hj]
        by_cases eq : q = j
        · rw [if_pos eq]
          symm
          rw [Bool.eq_false_iff]
          intro h
          subst eq
          have h1 := un_cls h
          have h2 := un_cls hu
          omega
        · rw [if_neg eq]
      simp [hm, e2]
    · simp [hm]
def cnt0 : List Bool → Nat
  | [] => 0
  | b :: r => (if b = true then 0 else 1) + cnt0 r
theorem cnt0_set : ∀ (l : List Bool) (i : Nat), l[i]? = some false → cnt0 (l.set i true) + 1 = cnt0 l := by
  intro l
  induction l with
  | nil => intro i h; simp at h
  | cons b r ih =>
    intro i h
    cases i with
    | zero =>
      obtain rfl : b = false := by simpa using h
      show (if true = true then 0 else 1) + cnt0 r + 1 = (if false = true then 0 else 1) + cnt0 r
      rw [if_pos rfl, if_neg (by decide)]
      omega
    | succ i =>
      have := ih i (by simpa using h)
      show (if b = true then 0 else 1) + cnt0 (r.set i true) + 1 = (if b = true then 0 else 1) + cnt0 r
      omega
theorem cnt0_pos : ∀ (l : List Bool), 0 < cnt0 l → ∃ i : Nat, i < l.length ∧ l.getD i true = false := by
  intro l
  induction l with
  | nil => intro h; exact absurd h (Nat.lt_irrefl 0)
  | cons b r ih =>
    intro h
    cases b with
    | false => exact ⟨0, by simp, rfl⟩
    | true =>
      have h' : 0 < 0 + cnt0 r := h
      obtain ⟨i, h1, h2⟩ := ih (by omega)
      exact ⟨i + 1, by simpa using h1, by simpa using h2⟩
theorem cnt0_rep (n : Nat) : cnt0 (List.replicate n false) = n := by
  induction n with
  | zero => rfl
  | succ n ih =>
    show (if false = true then 0 else 1) + cnt0 (List.replicate n false) = n + 1
    rw [if_neg (by decide), ih]
    omega
theorem un_get {js : List S30} {dn : List Bool} {c : Int} {j : Nat} (hj : j < dn.length) (h : un js dn c j = true) : dn[j]? = some false := by
  simp only [un, Bool.and_eq_true, Bool.not_eq_true'] at h
  have h1 := h.1
  rw [List.getD_eq_getElem?_getD, List.getElem?_eq_getElem hj, Option.getD_some] at h1
  rw [List.getElem?_eq_getElem hj, h1]
/-- next tells the first job of class c that is not done -/
def Nx (js : List S30) (dn : List Bool) (c t : Int) : Prop := (t = -1 ∧ ∀ j, j < js.length → un js dn c j = false) ∨ ∃ j : Nat, t = (j : Int) ∧ j < js.length ∧ un js dn c j = true ∧ ∀ i, i < j → un js dn c i = false
theorem next_l0 (js : List S30) (hj : js.length ≤ 60) (dn : List Bool) (hd : dn.length = js.length) (c : Int) : ∀ d i : Nat, i + d = js.length → (∀ j : Nat, j < i → un js dn c j = false) →
    ∃ t, Ev (fun k => spec_l12Next.l0 k js dn c (i : Int)) t ∧ Nx js dn c t := by
  intro d
  induction d with
  | zero =>
    intro i hi h
    refine ⟨-1, Ev.step (fun k => by rw [spec_l12Next.l0]) ?_, .inl ⟨rfl, fun j hu => h j (by omega)⟩⟩
    exact evF (by omega) (Ev.now _)
  | succ d ih =>
    intro i hi h
    have hil : i < js.length := by omega
    have n1 : (i : Int) < (js.length : Int) := by omega
    have n2 : 0 ≤ (i : Int) := by omega
    have n3 : (i : Int) < (dn.length : Int) := by omega
    have e1 : wrap64 ((i : Int) + 1) = ((i + 1 : Nat) : Int) := by rw [w64 (by omega) (by omega)]; omega
    have hg : dn.getD i true = dn[i]'(by omega) := by simp [List.getD_eq_getElem?_getD, show i < dn.length by omega]
    have hr : rd_T30 js (i : Int) = js.getD i z30 := by simp [rd_T30]
    have hb : rdOf false dn (i : Int) = dn[i]'(by omega) := rdOf_at false dn i (by omega)
    have next : un js dn c i = false → ∃ t, Ev (fun k => spec_l12Next.l0 k js dn c ((i + 1 : Nat) : Int)) t ∧ Nx js dn c t := fun hu => ih (i + 1) (by omega) (fun j hj2 => by
      by_cases e : j = i
      · subst e; exact hu
      · exact h j (by omega))
    by_cases c1 : (js.getD i z30).f0 = c
    · by_cases c2 : dn[i]'(by omega) = true
      · obtain ⟨t, ht, h2⟩ := next (by unfold un; rw [hg, c2]; rfl)
        refine ⟨t, Ev.step (fun k => by rw [spec_l12Next.l0]) ?_, h2⟩
        refine evT n1 (evT n2 ?_)
        rw [hr, hb, e1]
        exact evT c1 (evT n3 (evT c2 ht))
      · refine ⟨(i : Int), Ev.step (fun k => by rw [spec_l12Next.l0]) ?_, .inr ⟨i, rfl, hil, ?_, h⟩⟩
        · refine evT n1 (evT n2 ?_)
          rw [hr, hb, e1]
          exact evT c1 (evT n3 (evF c2 (Ev.now _)))
        · unfold un
          rw [hg, decide_eq_true c1, Bool.and_true]
          simpa using c2
    · obtain ⟨t, ht, h2⟩ := next (by unfold un; rw [decide_eq_false c1, Bool.and_false])
      refine ⟨t, Ev.step (fun k => by rw [spec_l12Next.l0]) ?_, h2⟩
      refine evT n1 (evT n2 ?_)
      rw [hr, hb, e1]
      exact evF c1 ht
theorem next_ev (js : List S30) (hj : js.length ≤ 60) (dn : List Bool) (hd : dn.length = js.length) (c : Int) : ∃ t, Ev (fun k => spec_l12Next.f k js dn c) t ∧ Nx js dn c t := by
  simp only [spec_l12Next.f]
  exact next_l0 js hj dn hd c js.length 0 (by omega) (fun j h => by omega)
def cls (js : List S30) (x : Int) : Int := (rd_T30 js x).f0
/-- in order within a class -/
def Ord (js : List S30) (out : List Int) : Prop := (∀ x ∈ out, 0 ≤ x ∧ x < (js.length : Int)) ∧ ∀ p q (hp : p < q) (hq : q < out.length), cls js out[p] = cls js out[q] → out[p] < out[q]
structure Rd (w : List Int) (js : List S30) (out : List Int) (dn : List Bool) (cr : List Int) : Prop where
  j60 : js.length ≤ 60
  w4 : w.length ≤ 4
  sz : ∀ i : Nat, i < js.length → 1 ≤ (js.getD i z30).f1 ∧ (js.getD i z30).f1 ≤ 9 ∧ 0 ≤ (js.getD i z30).f0 ∧ (js.getD i z30).f0 < (w.length : Int)
  wt : ∀ c : Nat, c < w.length → 1 ≤ rd w (c : Int) ∧ rd w (c : Int) ≤ 9
  dl : dn.length = js.length
  cl : cr.length = w.length
  cnt : out.length + cnt0 dn = js.length
  ord : Ord js out
  sep : ∀ x ∈ out, ∀ u : Nat, u < js.length → un js dn (cls js x) u = true → x < (u : Int)
theorem Rd.out60 {w js out dn cr} (h : Rd w js out dn cr) : out.length ≤ 60 := by have := h.cnt; have := h.j60; omega
theorem Rd.credit {w js out dn cr} (h : Rd w js out dn cr) (c : Nat) (v : Int) : Rd w js out dn (cr.set c v) := ⟨h.j60, h.w4, h.sz, h.wt, h.dl, by rw [List.length_set]; exact h.cl, h.cnt, h.ord, h.sep⟩
theorem Rd.serve {w js out dn cr} (h : Rd w js out dn cr) {c j : Nat} (hj : j < js.length) (hu : un js dn (c : Int) j = true) (hf : ∀ i, i < j → un js dn (c : Int) i = false) (v : Int) :
    Rd w js (out ++ [(j : Int)]) (dn.set j true) (cr.set c v) := by
  have hjd : j < dn.length := by rw [h.dl]; exact hj
  have hc := un_cls hu
  have hcj : cls js (j : Int) = (c : Int) := by unfold cls; simpa [rd_T30] using hc
  have hcs := cnt0_set dn j (un_get hjd hu)
  refine ⟨h.j60, h.w4, h.sz, h.wt, by rw [List.length_set]; exact h.dl, by rw [List.length_set]; exact h.cl, by rw [List.length_append, List.length_singleton]; have := h.cnt; omega, ⟨fun x hx => ?_, fun p q hp hq he => ?_⟩, fun x hx u hul huu => ?_⟩
  · rcases List.mem_append.1 hx with hx | hx
    · exact h.ord.1 x hx
    · obtain rfl := List.mem_singleton.1 hx
      exact ⟨by omega, by omega⟩
  · rw [List.length_append, List.length_singleton] at hq
    by_cases hq2 : q < out.length
    · have f1 : (out ++ [(j : Int)])[q]'(by simp; omega) = out[q] := List.getElem_append_left hq2
      have f2 : (out ++ [(j : Int)])[p]'(by simp; omega) = out[p] := List.getElem_append_left (by omega)
      rw [f1, f2] at he
      rw [f1, f2]
      exact h.ord.2 p q hp hq2 he
    · have hq3 : q = out.length := by omega
      subst hq3
      have e1 : (out ++ [(j : Int)])[out.length] = (j : Int) := by simp
      have e2 : (out ++ [(j : Int)])[p] = out[p]'(by omega) := List.getElem_append_left (by omega)
      rw [e1, e2] at he
      rw [e1, e2]
      refine h.sep _ (List.getElem_mem (by omega)) j hj ?_
      rw [he, hcj]
      exact hu
  · rw [un_set hjd] at huu
    by_cases e : u = j
    · rw [if_pos e] at huu; cases huu
    · rw [if_neg e] at huu
      rcases List.mem_append.1 hx with hx | hx
      · exact h.sep x hx u hul huu
      · obtain rfl := List.mem_singleton.1 hx
        rw [hcj] at huu
        have : ¬ u < j := fun hlt => by rw [hf u hlt] at huu; cases huu
        omega
def Sm (cr : List Int) (n : Nat) (c : Nat) : Prop := ∀ j : Nat, j < n → j ≠ c → 0 ≤ cr.getD j 0 ∧ cr.getD j 0 ≤ 8
def All8 (cr : List Int) (n : Nat) : Prop := ∀ j : Nat, j < n → 0 ≤ cr.getD j 0 ∧ cr.getD j 0 ≤ 8
theorem getD_set0 (l : List Int) (i j : Nat) (v : Int) (h : i < l.length) : (l.set i v).getD j 0 = if i = j then v else l.getD j 0 := by
  rw [List.getD_eq_getElem?_getD, List.getD_eq_getElem?_getD, List.getElem?_set]
  by_cases e : i = j
  · subst e; simp [h]
  · simp [e]
def Pr (js : List S30) (r : List Int) : Prop := r.length = js.length ∧ Ord js r
def nxt (n c : Nat) : Nat := if c + 1 = n then 0 else c + 1
theorem nxt_eq {n c : Nat} (h : c < n) (h4 : n ≤ 4) : Int.tmod (wrap64 ((c : Int) + 1)) (n : Int) = (nxt n c : Int) := by
  rw [w64 (by omega) (by omega)]
  unfold nxt
  split
  · rename_i e
    rw [show (c : Int) + 1 = (n : Int) by omega, Int.tmod_self]
    rfl
  · rw [Int.tmod_eq_of_lt (by omega) (by omega)]
    omega

end Go.Proofs.Ytnagdcigoaeicaa.Q
