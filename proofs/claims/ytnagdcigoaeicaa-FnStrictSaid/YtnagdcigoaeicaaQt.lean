/- Plain lemmas on what the printed functions compute (seat Ytnagdcigoaeicaa, module Qt). Conditions: each lemma's own. -/
import Derived.Test.YtnagdcigoaeicaaQa
import Derived.Test.YtnagdcigoaeicaaPA0
import Derived.Test.YtnagdcigoaeicaaPA1
import Derived.Test.YtnagdcigoaeicaaPA3
set_option linter.unusedVariables false
set_option linter.unusedSimpArgs false
namespace Go.Proofs.Ytnagdcigoaeicaa.Q
open Go Go.RowKit Go.Proofs.Ytnagdcigoaeicaa.PA Go.Proofs.YtnagdcigoaeicaaW.PrintWords Go.Proofs.YtnagdcigoaeicaaW.PrintLast

/-! ### jobs -/
def jok (n : Nat) (x : S30) : Bool := decide (0 ≤ x.f0 ∧ x.f0 ≤ (n : Int) - 1) && decide (1 ≤ x.f1 ∧ x.f1 ≤ 9)
def jv (w : List Int) (js : List S30) : Bool := wok w && (decide ((js.length : Int) ≤ 60) && js.all (jok w.length))
theorem implJobs_eq (w : List Int) (js : List S30) : impl_JobsValid.f w js = some (jv w js) := rfl
theorem rd30_at (l : List S30) (i : Nat) (h : i < l.length) : rd_T30 l (i : Int) = l[i] := by
  simp [rd_T30, List.getD_eq_getElem?_getD, h]
theorem specJobs_l0 (w : List Int) (hw : w.length ≤ 1000000000000) (js : List S30) (hj : js.length ≤ 1000000000000) : ∀ d i : Nat, i + d = js.length →
    Ev (fun k => spec_JobsValid.l0 k w js (i : Int)) ((js.drop i).all (jok w.length) && (wok w && decide ((js.length : Int) ≤ 60))) := by
  intro d
  induction d with
  | zero =>
    intro i hi
    rw [List.drop_of_length_le (by omega), List.all_nil, Bool.true_and]
    refine Ev.step (fun k => by rw [spec_JobsValid.l0]) ?_
    refine evF (by omega) (Ev.bind (specWeights_ev w hw) ?_)
    by_cases h : wok w = true
    · rw [h, Bool.true_and]
      exact evT rfl (Ev.now _)
    · rw [Bool.not_eq_true] at h
      rw [h, Bool.false_and]
      exact evF (by decide) (Ev.now _)
  | succ d ih =>
    intro i hi
    have hn := ih (i + 1) (by omega)
    rw [List.drop_eq_getElem_cons (show i < js.length by omega), List.all_cons]
    refine Ev.step (fun k => by rw [spec_JobsValid.l0]) ?_
    refine evT (by omega) (evT (by omega) ?_)
    rw [rd30_at js i (by omega), show wrap64 ((i : Int) + 1) = ((i + 1 : Nat) : Int) by rw [w64 (by omega) (by omega)]; omega, w64 (x := (w.length : Int) - 1) (by omega) (by omega)]
    refine evS (l1In_eq _ _ _) ?_
    show Ev _ (((decide (0 ≤ js[i].f0 ∧ js[i].f0 ≤ (w.length : Int) - 1) && decide (1 ≤ js[i].f1 ∧ js[i].f1 ≤ 9)) && _) && _)
    by_cases h : 0 ≤ js[i].f0 ∧ js[i].f0 ≤ (w.length : Int) - 1
    · rw [decide_eq_true h, Bool.true_and]
      refine evT rfl (evS (l1In_eq _ _ _) ?_)
      by_cases h2 : 1 ≤ js[i].f1 ∧ js[i].f1 ≤ 9
      · rw [decide_eq_true h2, Bool.true_and]
        exact evT rfl hn
      · rw [decide_eq_false h2, Bool.false_and, Bool.false_and]
        exact evF (by decide) (Ev.now _)
    · rw [decide_eq_false h, Bool.false_and, Bool.false_and, Bool.false_and]
      exact evF (by decide) (Ev.now _)
theorem specJobs_ev (w : List Int) (hw : w.length ≤ 1000000000000) (js : List S30) (hj : js.length ≤ 1000000000000) : Ev (fun k => spec_JobsValid.f k w js) (jv w js) := by
  simp only [spec_JobsValid.f]
  refine evE (specJobs_l0 w hw js hj js.length 0 (by omega)) ?_
  rw [List.drop_zero]
  unfold jv
  cases wok w <;> cases js.all (jok w.length) <;> cases decide ((js.length : Int) ≤ 60) <;> rfl

/-! ### the fair order: both make the same -/
def un (js : List S30) (dn : List Bool) (c : Int) (i : Nat) : Bool := !(dn.getD i true) && decide ((js.getD i z30).f0 = c)
def lf (p : Nat → Bool) : Nat → Nat → List Int
  | 0, _ => []
  | d + 1, i => if p i = true then (i : Int) :: lf p d (i + 1) else lf p d (i + 1)
theorem lf_congr {p p' : Nat → Bool} : ∀ d i, (∀ q, i ≤ q → q < i + d → p q = p' q) → lf p d i = lf p' d i := by
  intro d
  induction d with
  | zero => intro i _; rfl
  | succ d ih =>
    intro i h
    show (if p i = true then _ else _) = (if p' i = true then _ else _)
    rw [h i (Nat.le_refl _) (by omega), ih (i + 1) (fun q h1 h2 => h q (by omega) (by omega))]
theorem lf_none {p : Nat → Bool} : ∀ d i, (∀ q, i ≤ q → q < i + d → p q = false) → lf p d i = [] := by
  intro d
  induction d with
  | zero => intro i _; rfl
  | succ d ih =>
    intro i h
    show (if p i = true then _ else _) = _
    rw [h i (Nat.le_refl _) (by omega), if_neg (by decide), ih (i + 1) (fun q h1 h2 => h q (by omega) (by omega))]
theorem lf_first {p : Nat → Bool} {j : Nat} (hj : p j = true) : ∀ d i, i ≤ j → j < i + d → (∀ q, i ≤ q → q < j → p q = false) → lf p d i = (j : Int) :: lf (fun q => if q = j then false else p q) d i := by
  intro d
  induction d with
  | zero => intro i h1 h2; omega
  | succ d ih =>
    intro i h1 h2 h3
    show (if p i = true then (i : Int) :: lf p d (i + 1) else lf p d (i + 1)) = (j : Int) :: (if (if i = j then false else p i) = true then (i : Int) :: lf (fun q => if q = j then false else p q) d (i + 1) else lf (fun q => if q = j then false else p q) d (i + 1))
    by_cases e : i = j
    · subst e
      rw [if_pos hj, if_pos rfl, if_neg (by decide)]
      congr 1
      exact lf_congr d (i + 1) (fun q h4 _ => by rw [if_neg (by omega)])
    · rw [h3 i (Nat.le_refl _) (by omega), if_neg (by decide), if_neg e, if_neg (by decide)]
      exact ih (i + 1) (by omega) (by omega) (fun q h4 h5 => h3 q (by omega) h5)
theorem lf_snoc (p : Nat → Bool) : ∀ d i, lf p (d + 1) i = lf p d i ++ (if p (i + d) = true then [((i + d : Nat) : Int)] else []) := by
  intro d
  induction d with
  | zero => intro i; show (if p i = true then [(i : Int)] else []) = _; rfl
  | succ d ih =>
    intro i
    show (if p i = true then (i : Int) :: lf p (d + 1) (i + 1) else lf p (d + 1) (i + 1)) = (if p i = true then (i : Int) :: lf p d (i + 1) else lf p d (i + 1)) ++ _
    rw [ih (i + 1), show i + 1 + d = i + (d + 1) by omega]
    split <;> rfl
theorem lf_len (p : Nat → Bool) : ∀ d i, (lf p d i).length ≤ d := by
  intro d
  induction d with
  | zero => intro i; exact Nat.le_refl _
  | succ d ih =>
    intro i
    have := ih (i + 1)
    show (if p i = true then (i : Int) :: lf p d (i + 1) else lf p d (i + 1)).length ≤ d + 1
    split
    · rw [List.length_cons]; omega
    · omega
def lrows (n : Nat) (js : List S30) (dn : List Bool) : List (List Int) := (List.range n).map fun (c : Nat) => lf (un js dn (c : Int)) js.length 0
theorem lrows_len (n : Nat) (js : List S30) (dn : List Bool) : (lrows n js dn).length = n := by simp [lrows]
theorem lrows_at (n : Nat) (js : List S30) (dn : List Bool) (c : Nat) (h : c < n) : rd_L3 (lrows n js dn) (c : Int) = lf (un js dn (c : Int)) js.length 0 := by
  simp [rd_L3, lrows, List.getD_eq_getElem?_getD, h]
theorem un_set {js : List S30} {dn : List Bool} {j : Nat} (hj : j < dn.length) (c : Int) (q : Nat) : un js (dn.set j true) c q = if q = j then false else un js dn c q := by
  unfold un
  have e0 : (dn.set j true).getD q true = if j = q then true else dn.getD q true := by
    rw [List.getD_eq_getElem?_getD, List.getD_eq_getElem?_getD, List.getElem?_set]
    by_cases e : j = q
    · subst e; simp [hj]
    · simp [e]
  rw [e0]
  by_cases e : j = q
  · subst e; simp
  · rw [if_neg e, if_neg (fun h => e h.symm)]
theorem un_cls {js : List S30} {dn : List Bool} {c : Int} {q : Nat} (h : un js dn c q = true) : (js.getD q z30).f0 = c := by
  simp only [un, Bool.and_eq_true, decide_eq_true_eq] at h
  exact h.2
theorem lrows_set {n : Nat} {js : List S30} {dn : List Bool} {j c : Nat} (hj : j < dn.length) (hjs : j < js.length) (hu : un js dn (c : Int) j = true) (hf : ∀ q, q < j → un js dn (c : Int) q = false) :
    lrows n js (dn.set j true) = (lrows n js dn).set c ((lf (un js dn (c : Int)) js.length 0).drop 1) := by
  unfold lrows
  refine List.ext_getElem? fun m => ?_
  rw [List.getElem?_set]
  by_cases e : c = m
  · subst e
    by_cases hc : c < n
    · have e2 : lf (un js (dn.set j true) (c : Int)) js.length 0 = (lf (un js dn (c : Int)) js.length 0).drop 1 := by
        rw [lf_first hu js.length 0 (Nat.zero_le _) (by omega) (fun q _ h => hf q h), List.drop_one, List.tail_cons]
        exact lf_congr _ _ (fun q _ _ => un_set hj _ q)
      simp [hc, e2]
    · simp [hc]
  · rw [if_neg e, List.getElem?_map, List.getElem?_map]
    by_cases hm : m < n
    · have e2 : lf (un js (dn.set j true) (m : Int)) js.length 0 = lf (un js dn (m : Int)) js.length 0 := by
        refine lf_congr _ _ (fun q _ _ => ?_)
        rw [un_set hj]
        by_cases eq : q = j
        · rw [if_pos eq]
          symm
          rw [Bool.eq_false_iff]
          intro h
          subst eq
          have h1 := un_cls h
          have h2 := un_cls hu
          omega
        · rw [if_neg eq]
      simp [hm, e2]
    · simp [hm]

/-! ### the jobs by class -/
def lrowsTo (n : Nat) (js : List S30) (i : Nat) : List (List Int) := (List.range n).map fun (c : Nat) => lf (un js (List.replicate js.length false) (c : Int)) i 0
theorem un_all {js : List S30} {i : Nat} (hi : i < js.length) (c : Int) : un js (List.replicate js.length false) c i = decide ((js.getD i z30).f0 = c) := by
  unfold un
  have e : (List.replicate js.length false).getD i true = false := by simp [List.getD_eq_getElem?_getD, hi]
  rw [e]
  rfl
theorem lrowsTo_succ {n : Nat} {js : List S30} {i c : Nat} (hi : i < js.length) (hc : (js.getD i z30).f0 = (c : Int)) :
    lrowsTo n js (i + 1) = (lrowsTo n js i).set c (lf (un js (List.replicate js.length false) (c : Int)) i 0 ++ [(i : Int)]) := by
  unfold lrowsTo
  refine List.ext_getElem? fun m => ?_
  have hs : ∀ m : Nat, lf (un js (List.replicate js.length false) (m : Int)) (i + 1) 0 = lf (un js (List.replicate js.length false) (m : Int)) i 0 ++ (if (js.getD i z30).f0 = (m : Int) then [(i : Int)] else []) := fun m => by
    rw [lf_snoc, Nat.zero_add, un_all hi]
    by_cases e : (js.getD i z30).f0 = (m : Int)
    · rw [if_pos (decide_eq_true e), if_pos e]
    · rw [if_neg (by simpa using e), if_neg e]
  rw [List.getElem?_set]
  by_cases e : c = m
  · subst e
    by_cases hm : c < n
    · have := hs c
      rw [if_pos hc] at this
      simp [hm, this]
    · simp [hm]
  · rw [if_neg e, List.getElem?_map, List.getElem?_map]
    by_cases hm : m < n
    · have := hs m
      rw [if_neg (by omega), List.append_nil] at this
      simp [hm, this]
    · simp [hm]
theorem implByClass_l0 (n : Nat) (js : List S30) (hj : js.length ≤ 60) (hcl : ∀ i : Nat, i < js.length → 0 ≤ (js.getD i z30).f0 ∧ (js.getD i z30).f0 < (n : Int)) : ∀ d i : Nat, i + d = js.length →
    Ev (fun k => impl_byClass.l0 k (lrowsTo n js i) js (js.length : Int) (i : Int)) (lrows n js (List.replicate js.length false)) := by
  intro d
  induction d with
  | zero =>
    intro i hi
    obtain rfl : i = js.length := by omega
    refine Ev.step (fun k => by rw [impl_byClass.l0]) ?_
    exact evF (by omega) (Ev.now _)
  | succ d ih =>
    intro i hi
    have hil : i < js.length := by omega
    have hr := ih (i + 1) (by omega)
    have h0 := hcl i hil
    have hr30 : rd_T30 js (i : Int) = js.getD i z30 := by simp [rd_T30]
    obtain ⟨c, hc⟩ := Int.eq_ofNat_of_zero_le h0.1
    rw [hc] at h0
    rw [lrowsTo_succ hil hc] at hr
    have hlen : (lrowsTo n js i).length = n := by simp [lrowsTo]
    have hat : rd_L3 (lrowsTo n js i) (c : Int) = lf (un js (List.replicate js.length false) (c : Int)) i 0 := by
      simp [rd_L3, lrowsTo, List.getD_eq_getElem?_getD, show c < n by omega]
    have hl := lf_len (un js (List.replicate js.length false) (c : Int)) i 0
    refine Ev.step (fun k => by rw [impl_byClass.l0]) ?_
    rw [hr30, hc, hat, Int.toNat_natCast, show wrap64 ((i : Int) + 1) = ((i + 1 : Nat) : Int) by rw [w64 (by omega) (by omega)]; omega]
    exact evT (by omega) (evT (by omega) (evT (by omega) (evT (by omega) (evT (by rw [hlen]; omega) (evT (by omega) hr)))))
theorem implByClass_ev (w : List Int) (hw : w.length ≤ 4) (js : List S30) (hj : js.length ≤ 60) (hcl : ∀ i : Nat, i < js.length → 0 ≤ (js.getD i z30).f0 ∧ (js.getD i z30).f0 < (w.length : Int)) : Ev (fun k => impl_byClass.f k w js) (lrows w.length js (List.replicate js.length false)) := by
  simp only [impl_byClass.f]
  have e : lrowsTo w.length js 0 = List.replicate ((w.length : Int)).toNat [] := by
    unfold lrowsTo
    rw [Int.toNat_natCast]
    refine List.ext_getElem (by simp) fun j h1 h2 => by simp [lf]
  have hr := implByClass_l0 w.length js hj hcl js.length 0 (by omega)
  rw [e] at hr
  exact evT (by omega) (evT (by omega) hr)

end Go.Proofs.Ytnagdcigoaeicaa.Q
