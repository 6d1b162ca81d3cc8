/- Plain lemmas on what the printed functions compute (seat Ytnagdcigoaeicaa, module Qs). Conditions: each lemma's own. -/
import Derived.Test.YtnagdcigoaeicaaQa
import Derived.Test.YtnagdcigoaeicaaPA0
import Derived.Test.YtnagdcigoaeicaaPA1
import Derived.Test.YtnagdcigoaeicaaPA4
set_option linter.unusedVariables false
set_option linter.unusedSimpArgs false
namespace Go.Proofs.Ytnagdcigoaeicaa.Q
open Go Go.RowKit Go.Proofs.Ytnagdcigoaeicaa.PA Go.Proofs.YtnagdcigoaeicaaW.PrintWords Go.Proofs.YtnagdcigoaeicaaW.PrintLast

/-! ### jobs -/
def jok (n : Nat) (x : S30) : Bool := decide (0 ≤ x.f0 ∧ x.f0 ≤ (n : Int) - 1) && decide (1 ≤ x.f1 ∧ x.f1 ≤ 9)
def jv (w : List Int) (js : List S30) : Bool := wok w && (decide ((js.length : Int) ≤ 60) && js.all (jok w.length))
theorem implJobs_eq (w : List Int) (js : List S30) : impl_JobsValid.f w js = some (jv w js) := rfl
theorem rd30_at (l : List S30) (i : Nat) (h : i < l.length) : rd_T30 l (i : Int) = l[i] := by
  simp [rd_T30, List.getD_eq_getElem?_getD, h]
theorem specJobs_l0 (w : List Int) (hw : w.length ≤ 1000000000000) (js : List S30) (hj : js.length ≤ 1000000000000) : ∀ d i : Nat, i + d = js.length →
    Ev (fun k => spec_JobsValid.l0 k w js (i : Int)) ((js.drop i).all (jok w.length) && (wok w && decide ((js.length : Int) ≤ 60))) := by
  intro d
  induction d with
  | zero =>
    intro i hi
    rw [List.drop_of_length_le (by omega), List.all_nil, Bool.true_and]
    refine Ev.step (fun k => by rw [spec_JobsValid.l0]) ?_
    refine evF (by omega) (Ev.bind (specWeights_ev w hw) ?_)
    by_cases h : wok w = true
    · rw [h, Bool.true_and]
      exact evT rfl (Ev.now _)
    · rw [Bool.not_eq_true] at h
      rw [h, Bool.false_and]
      exact evF (by decide) (Ev.now _)
  | succ d ih =>
    intro i hi
    have hn := ih (i + 1) (by omega)
    rw [List.drop_eq_getElem_cons (show i < js.length by omega), List.all_cons]
    refine Ev.step (fun k => by rw [spec_JobsValid.l0]) ?_
    refine evT (by omega) (evT (by omega) ?_)
    rw [rd30_at js i (by omega), show wrap64 ((i : Int) + 1) = ((i + 1 : Nat) : Int) by rw [w64 (by omega) (by omega)]; omega, w64 (x := (w.length : Int) - 1) (by omega) (by omega)]
    refine evS (l1In_eq _ _ _) ?_
    show Ev _ (((decide (0 ≤ js[i].f0 ∧ js[i].f0 ≤ (w.length : Int) - 1) && decide (1 ≤ js[i].f1 ∧ js[i].f1 ≤ 9)) && _) && _)
    by_cases h : 0 ≤ js[i].f0 ∧ js[i].f0 ≤ (w.length : Int) - 1
    · rw [decide_eq_true h, Bool.true_and]
      refine evT rfl (evS (l1In_eq _ _ _) ?_)
      by_cases h2 : 1 ≤ js[i].f1 ∧ js[i].f1 ≤ 9
      · rw [decide_eq_true h2, Bool.true_and]
        exact evT rfl hn
      · rw [decide_eq_false h2, Bool.false_and, Bool.false_and]
        exact evF (by decide) (Ev.now _)
    · rw [decide_eq_false h, Bool.false_and, Bool.false_and, Bool.false_and]
      exact evF (by decide) (Ev.now _)
theorem specJobs_ev (w : List Int) (hw : w.length ≤ 1000000000000) (js : List S30) (hj : js.length ≤ 1000000000000) : Ev (fun k => spec_JobsValid.f k w js) (jv w js) := by
  simp only [spec_JobsValid.f]
  refine evE (specJobs_l0 w hw js hj js.length 0 (by omega)) ?_
  rw [List.drop_zero]
  unfold jv
  cases wok w <;> cases js.all (jok w.length) <;> cases decide ((js.length : Int) ≤ 60) <;> rfl

/-! ### what has been served -/
theorem go_in {js : List S30} {k : Int} (h : 0 ≤ k ∧ k ≤ (js.length : Int) - 1) (seen ks out : List Int) : impl_ServedBy.go js seen (k :: ks) out = (if seen.contains k = true then impl_ServedBy.go js seen ks out else (if 0 ≤ (rd_T30 js k).f0 then (if (rd_T30 js k).f0 < (out.length : Int) then impl_ServedBy.go js (seen ++ [k]) ks (out.set ((rd_T30 js k).f0).toNat (wrap64 ((rd out (rd_T30 js k).f0) + (rd_T30 js k).f1))) else none) else none)) := by
  rw [impl_ServedBy.go, if_pos (decide_eq_true h)]
theorem go_out {js : List S30} {k : Int} (h : ¬ (0 ≤ k ∧ k ≤ (js.length : Int) - 1)) (seen ks out : List Int) : impl_ServedBy.go js seen (k :: ks) out = some [] := by
  rw [impl_ServedBy.go, if_neg (by simp only [decide_eq_true_eq]; exact h)]
theorem job_ok {js : List S30} {n : Nat} (h : js.all (jok n) = true) {k : Int} (hk : 0 ≤ k ∧ k ≤ (js.length : Int) - 1) : 0 ≤ (rd_T30 js k).f0 ∧ (rd_T30 js k).f0 < (n : Int) ∧ 1 ≤ (rd_T30 js k).f1 ∧ (rd_T30 js k).f1 ≤ 9 := by
  obtain ⟨m, rfl⟩ := Int.eq_ofNat_of_zero_le hk.1
  have hm : m < js.length := by omega
  rw [rd30_at js m hm]
  have := List.all_eq_true.1 h _ (List.getElem_mem hm)
  simp only [jok, Bool.and_eq_true, decide_eq_true_eq] at this
  omega
theorem go_some {js : List S30} : ∀ (l seen out : List Int), js.all (jok out.length) = true → ∃ r, impl_ServedBy.go js seen l out = some r ∧ (r = [] ∨ r.length = out.length) := by
  intro l
  induction l with
  | nil => intro seen out _; exact ⟨out, rfl, .inr rfl⟩
  | cons k ks ih =>
    intro seen out hj
    by_cases hk : 0 ≤ k ∧ k ≤ (js.length : Int) - 1
    · obtain ⟨h1, h2, _⟩ := job_ok hj hk
      rw [go_in hk]
      by_cases hs : seen.contains k = true
      · rw [if_pos hs]; exact ih seen out hj
      · rw [if_neg hs, if_pos h1, if_pos h2]
        obtain ⟨r, hr, h3⟩ := ih (seen ++ [k]) (out.set ((rd_T30 js k).f0).toNat (wrap64 ((rd out (rd_T30 js k).f0) + (rd_T30 js k).f1))) (by rw [List.length_set]; exact hj)
        rw [List.length_set] at h3
        exact ⟨r, hr, h3⟩
    · exact ⟨[], go_out hk _ _ _, .inl rfl⟩
def SameB (js : List S30) (seen : List Int) (bs : List Bool) : Prop := bs.length = js.length ∧ ∀ i : Nat, i < js.length → bs.getD i false = seen.contains (i : Int)
theorem SameB.add {js : List S30} {seen : List Int} {bs : List Bool} (h : SameB js seen bs) {k : Int} (hk : 0 ≤ k) (seen' : List Int) (hs : ∀ i : Nat, seen'.contains (i : Int) = (seen.contains (i : Int) || decide ((i : Int) = k))) : SameB js seen' (bs.set k.toNat true) := by
  obtain ⟨m, rfl⟩ := Int.eq_ofNat_of_zero_le hk
  refine ⟨by rw [List.length_set]; exact h.1, fun i hi => ?_⟩
  rw [hs i, ← h.2 i hi, Int.toNat_natCast]
  have hb : i < bs.length := by rw [h.1]; exact hi
  by_cases e : i = m
  · subst e
    simp [List.getD_eq_getElem?_getD, hb]
  · have e2 : ¬ m = i := fun x => e x.symm
    have e3 : ¬ (i : Int) = (m : Int) := by omega
    simp [List.getD_eq_getElem?_getD, List.getElem?_set, e2, e3]
theorem specServed_l0 (js : List S30) (hjl : js.length ≤ 60) (l : List Int) (hl : l.length ≤ 1000000000000) : ∀ (d i : Nat) (seen out : List Int) (bs : List Bool) (r : List Int), i + d = l.length → js.all (jok out.length) = true → out.length ≤ 10 → SameB js seen bs →
    impl_ServedBy.go js seen (l.drop i) out = some r → Ev (fun k => spec_ServedBy.l0 k js l out bs (i : Int)) r := by
  intro d
  induction d with
  | zero =>
    intro i seen out bs r hi hj ho hS hg
    rw [List.drop_of_length_le (by omega)] at hg
    obtain rfl := Option.some.inj hg
    refine Ev.step (fun k => by rw [spec_ServedBy.l0]) ?_
    exact evF (by omega) (Ev.now _)
  | succ d ih =>
    intro i seen out bs r hi hj ho hS hg
    have hil : i < l.length := by omega
    have e : wrap64 ((i : Int) + 1) = ((i + 1 : Nat) : Int) := by rw [w64 (by omega) (by omega)]; omega
    rw [List.drop_eq_getElem_cons hil] at hg
    refine Ev.step (fun k => by rw [spec_ServedBy.l0]) ?_
    refine evT (by omega) (evT (by omega) (evS (l1In_eq _ _ _) ?_))
    rw [rd_at l i hil, w64 (x := (js.length : Int) - 1) (by omega) (by omega), e]
    generalize l[i] = k at hg
    by_cases hk : 0 ≤ k ∧ k ≤ (js.length : Int) - 1
    · obtain ⟨h1, h2, h3, h4⟩ := job_ok hj hk
      rw [go_in hk] at hg
      have hkb : k < (bs.length : Int) := by rw [hS.1]; omega
      refine evT (decide_eq_true hk) (evT hk.1 (evT (by omega) (evT hkb ?_)))
      have hb : rdOf false bs k = seen.contains k := by
        obtain ⟨m, rfl⟩ := Int.eq_ofNat_of_zero_le hk.1
        rw [rdOf_getD]
        exact hS.2 m (by omega)
      rw [hb]
      by_cases hs : seen.contains k = true
      · rw [if_pos hs] at hg
        refine evT hs (ih (i + 1) seen out _ r (by omega) hj ho (hS.add hk.1 seen (fun j => ?_)) hg)
        by_cases ej : (j : Int) = k
        · rw [ej, hs]; rfl
        · rw [decide_eq_false ej, Bool.or_false]
      · rw [if_neg hs, if_pos h1, if_pos h2] at hg
        refine evF hs (evT h1 (evT h2 (ih (i + 1) (seen ++ [k]) _ _ r (by omega) (by rw [List.length_set]; exact hj) (by rw [List.length_set]; exact ho) (hS.add hk.1 _ (fun j => ?_)) hg)))
        simp
    · rw [go_out hk] at hg
      obtain rfl := Option.some.inj hg
      exact evF (by simp only [decide_eq_true_eq]; exact hk) (Ev.now _)
theorem jv_elim {ws : List Int} {js : List S30} (h : jv ws js = true) : wok ws = true ∧ js.length ≤ 60 ∧ js.all (jok ws.length) = true := by
  simp only [jv, Bool.and_eq_true, decide_eq_true_eq] at h
  exact ⟨h.1, by omega, h.2.2⟩
theorem served_ev (ws : List Int) (hw : ws.length ≤ 1000000000000) (js : List S30) (hj : js.length ≤ 1000000000000) (l : List Int) (hl : l.length ≤ 1000000000000) :
    ∃ r, impl_ServedBy.f ws js l = some r ∧ Ev (fun k => spec_ServedBy.f k ws js l) r ∧ r.length ≤ 4 ∧ ((jv ws js = false ∧ r = []) ∨ (jv ws js = true ∧ impl_ServedBy.go js [] l (List.replicate ws.length 0) = some r)) := by
  unfold impl_ServedBy.f
  rw [implJobs_eq, Option.bind_some]
  simp only [spec_ServedBy.f]
  cases h : jv ws js with
  | false =>
    refine ⟨[], by rw [if_neg (by decide)], ?_, by simp, .inl ⟨rfl, rfl⟩⟩
    refine Ev.bind (specJobs_ev ws hw js hj) ?_
    rw [h]
    exact evF (by decide) (Ev.now _)
  | true =>
    obtain ⟨h1, h2, h3⟩ := jv_elim h
    obtain ⟨k1, k2, _⟩ := wok_elim h1
    obtain ⟨r, hr, hrl⟩ := go_some (js := js) l [] (List.replicate ws.length 0) (by rw [List.length_replicate]; exact h3)
    refine ⟨r, by rw [if_pos rfl]; exact hr, ?_, ?_, .inr ⟨rfl, hr⟩⟩
    · refine Ev.bind (specJobs_ev ws hw js hj) ?_
      rw [h]
      refine evT rfl (evT (by omega) (evT (by omega) (evT (by omega) (evT (by omega) ?_))))
      rw [Int.toNat_natCast, Int.toNat_natCast]
      refine specServed_l0 js h2 l hl l.length 0 [] _ _ r (by omega) (by rw [List.length_replicate]; exact h3) (by rw [List.length_replicate]; omega) ⟨List.length_replicate, fun i hi => ?_⟩ (by rw [List.drop_zero]; exact hr)
      simp [List.getD_eq_getElem?_getD, hi]
    · rcases hrl with rfl | hrl
      · simp
      · rw [hrl, List.length_replicate]; omega

end Go.Proofs.Ytnagdcigoaeicaa.Q
