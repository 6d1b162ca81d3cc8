/- Plain lemmas on what the printed functions compute (seat Ytnagdcigoaeicaa, module Qh). Conditions: each lemma's own. -/
import Derived.Test.YtnagdcigoaeicaaQg
import Derived.Test.YtnagdcigoaeicaaPA0
import Derived.Test.YtnagdcigoaeicaaPA11
import Derived.Test.YtnagdcigoaeicaaPA3
import Derived.Test.YtnagdcigoaeicaaPA9
set_option linter.unusedVariables false
set_option linter.unusedSimpArgs false
namespace Go.Proofs.Ytnagdcigoaeicaa.Q
open Go Go.RowKit Go.Proofs.Ytnagdcigoaeicaa.PA Go.Proofs.YtnagdcigoaeicaaW.PrintWords Go.Proofs.YtnagdcigoaeicaaW.PrintLast

theorem spec_done (w : List Int) (js : List S30) {out : List Int} {dn : List Bool} {cr : List Int} (hR : Rd w js out dn cr) (h0 : cnt0 dn = 0) : ∀ d c : Nat, c + d = w.length → Ev (fun k => spec_FairOrder.l1 k w js out dn cr (c : Int)) out := by
  have hw4 := hR.w4
  have hno : ∀ c j, j < js.length → un js dn c j = false := fun c j hj => by
    rw [Bool.eq_false_iff]
    intro hu
    have := cnt0_set dn j (un_get (by rw [hR.dl]; exact hj) hu)
    omega
  intro d
  induction d with
  | zero =>
    intro c hc
    refine Ev.step (fun k => by rw [spec_FairOrder.l1]) ?_
    refine evF (by omega) (Ev.step (fun k => by rw [spec_FairOrder.l0]) ?_)
    exact evF (by have := hR.cnt; omega) (Ev.now _)
  | succ d ih =>
    intro c hc
    have e1 : wrap64 ((c : Int) + 1) = ((c + 1 : Nat) : Int) := by rw [w64 (by omega) (by omega)]; omega
    obtain ⟨t, ht, hN⟩ := next_ev js hR.j60 dn hR.dl (c : Int)
    have hneg : t < 0 := by
      rcases hN with ⟨h, _⟩ | ⟨j, _, hj, hu, _⟩
      · omega
      · rw [hno _ j hj] at hu; cases hu
    refine Ev.step (fun k => by rw [spec_FairOrder.l1]) ?_
    refine evT (by omega) (Ev.bind ht (evT hneg ?_))
    rw [e1]
    exact ih (c + 1) (by omega)
theorem both_l2 (w : List Int) (js : List S30) {c : Nat} (hc : c < w.length) : ∀ (u : Nat) (out : List Int) (dn : List Bool) (cr : List Int) (t : Int), cnt0 dn ≤ u → Rd w js out dn cr → Sm cr w.length c → 0 ≤ cr.getD c 0 → cr.getD c 0 ≤ 100 → Nx js dn (c : Int) t →
    (∀ (out' : List Int) (dn' : List Bool) (cr' : List Int), Rd w js out' dn' cr' → All8 cr' w.length → cnt0 dn' ≤ cnt0 dn → ((∃ j : Nat, t = (j : Int) ∧ (js.getD j z30).f1 ≤ cr.getD c 0) → cnt0 dn' < cnt0 dn) → ∃ r, Ev (fun k => spec_FairOrder.l1 k w js out' dn' cr' ((c + 1 : Nat) : Int)) r ∧ Ev (fun k => impl_FairOrder.l0 k w js (lrows w.length js dn') cr' out' (nxt w.length c : Int)) r ∧ Pr js r) →
    ∃ r, Ev (fun k => spec_FairOrder.l2 k w js out dn cr (c : Int) t) r ∧ Ev (fun k => impl_FairOrder.l1 k w js (lrows w.length js dn) cr out (c : Int)) r ∧ Pr js r := by
  intro u
  induction u with
  | zero =>
    intro out dn cr t hu hR hS h0 h1 hN hn
    have hcr : (c : Int) < (cr.length : Int) := by rw [hR.cl]; omega
    have hw4 := hR.w4
    have e1 : wrap64 ((c : Int) + 1) = ((c + 1 : Nat) : Int) := by rw [w64 (by omega) (by omega)]; omega
    rcases hN with ⟨rfl, hN⟩ | ⟨j, rfl, hj, huj, _⟩
    · have hA : All8 (cr.set c 0) w.length := fun j hj => by
        rw [getD_set0 cr c j 0 (by rw [hR.cl]; exact hc)]
        by_cases e : c = j
        · rw [if_pos e]; omega
        · rw [if_neg e]; exact hS j hj (fun h => e h.symm)
      have hrow : lf (un js dn (c : Int)) js.length 0 = [] := lf_none _ _ (fun q _ h => hN q (by omega))
      obtain ⟨r, hr, hi, hl⟩ := hn out dn (cr.set c 0) (hR.credit c 0) hA (Nat.le_refl _) (fun ⟨j, h, _⟩ => by omega)
      refine ⟨r, Ev.step (fun k => by rw [spec_FairOrder.l2]) ?_, Ev.step (fun k => by rw [impl_FairOrder.l1]) ?_, hl⟩
      · refine evF (by omega) (evT (by omega) (evT (by omega) (evT hcr ?_)))
        rw [Int.toNat_natCast, e1]
        exact hr
      · rw [lrows_at _ _ _ c hc, hrow]
        refine evT (by omega) (evT (by rw [lrows_len]; omega) (evF (by simp) (evT rfl (evT hcr (evF (by omega) ?_)))))
        rw [Int.toNat_natCast, nxt_eq hc hw4]
        exact hi
    · have := cnt0_set dn j (un_get (by rw [hR.dl]; exact hj) huj)
      omega
  | succ u ih =>
    intro out dn cr t hu hR hS h0 h1 hN hn
    have hcr : (c : Int) < (cr.length : Int) := by rw [hR.cl]; omega
    have hw4 := hR.w4
    have hj60 := hR.j60
    have hol := hR.out60
    have e1 : wrap64 ((c : Int) + 1) = ((c + 1 : Nat) : Int) := by rw [w64 (by omega) (by omega)]; omega
    have hrc : rd cr (c : Int) = cr.getD c 0 := by simp [rd]
    rcases hN with ⟨rfl, hN⟩ | ⟨j, rfl, hj, huj, hfj⟩
    · have hA : All8 (cr.set c 0) w.length := fun j hj => by
        rw [getD_set0 cr c j 0 (by rw [hR.cl]; exact hc)]
        by_cases e : c = j
        · rw [if_pos e]; omega
        · rw [if_neg e]; exact hS j hj (fun h => e h.symm)
      have hrow : lf (un js dn (c : Int)) js.length 0 = [] := lf_none _ _ (fun q _ h => hN q (by omega))
      obtain ⟨r, hr, hi, hl⟩ := hn out dn (cr.set c 0) (hR.credit c 0) hA (Nat.le_refl _) (fun ⟨j, h, _⟩ => by omega)
      refine ⟨r, Ev.step (fun k => by rw [spec_FairOrder.l2]) ?_, Ev.step (fun k => by rw [impl_FairOrder.l1]) ?_, hl⟩
      · refine evF (by omega) (evT (by omega) (evT (by omega) (evT hcr ?_)))
        rw [Int.toNat_natCast, e1]
        exact hr
      · rw [lrows_at _ _ _ c hc, hrow]
        refine evT (by omega) (evT (by rw [lrows_len]; omega) (evF (by simp) (evT rfl (evT hcr (evF (by omega) ?_)))))
        rw [Int.toNat_natCast, nxt_eq hc hw4]
        exact hi
    · have hsz := hR.sz j hj
      have hr30 : rd_T30 js (j : Int) = js.getD j z30 := by simp [rd_T30]
      have n1 : (j : Int) < (js.length : Int) := Int.ofNat_lt.2 hj
      have n2 : 0 ≤ (j : Int) := Int.natCast_nonneg j
      have n3 : (j : Int) < (dn.length : Int) := by rw [hR.dl]; exact n1
      have hjd : j < dn.length := by rw [hR.dl]; exact hj
      have hrow := lf_first huj js.length 0 (Nat.zero_le _) (by omega) (fun q _ h => hfj q h)
      have hrl := lf_len (un js dn (c : Int)) js.length 0
      by_cases hs : (js.getD j z30).f1 ≤ cr.getD c 0
      · have hcs := cnt0_set dn j (un_get hjd huj)
        have hdl : (dn.set j true).length = js.length := by rw [List.length_set]; exact hR.dl
        obtain ⟨t2, ht2, hN2⟩ := next_ev js hj60 (dn.set j true) hdl (c : Int)
        have e2 : wrap64 (rd cr (c : Int) - (js.getD j z30).f1) = cr.getD c 0 - (js.getD j z30).f1 := by rw [hrc, w64 (by omega) (by omega)]
        have hcl : c < cr.length := by rw [hR.cl]; exact hc
        have hlr := lrows_set (n := w.length) hjd hj huj hfj
        obtain ⟨r, hr, hi, hl⟩ := ih (out ++ [(j : Int)]) (dn.set j true) (cr.set c (cr.getD c 0 - (js.getD j z30).f1)) t2 (by omega) (hR.serve hj huj hfj _)
          (fun q hq hqc => by rw [getD_set0 cr c q _ hcl, if_neg (fun h => hqc h.symm)]; exact hS q hq hqc)
          (by rw [getD_set0 cr c c _ hcl, if_pos rfl]; omega) (by rw [getD_set0 cr c c _ hcl, if_pos rfl]; omega) hN2
          (fun out' dn' cr' a1 a2 a3 a4 => hn out' dn' cr' a1 a2 (by omega) (fun _ => by omega))
        refine ⟨r, Ev.step (fun k => by rw [spec_FairOrder.l2]) ?_, Ev.step (fun k => by rw [impl_FairOrder.l1]) ?_, hl⟩
        · rw [hr30]
          refine evT n2 (evT n2 (evT n1 (evT (by omega) (evT hcr (evT (by rw [hrc]; exact hs) (evT n3 (evS rfl (evT (by omega) (Ev.bind ht2 ?_)))))))))
          rw [e2, Int.toNat_natCast]
          exact hr
        · rw [lrows_at _ _ _ c hc]
          rw [hlr, hrow] at hi
          rw [hrow]
          have er : rd ((j : Int) :: lf (fun q => if q = j then false else un js dn (c : Int) q) js.length 0) 0 = (j : Int) := rfl
          rw [er, hr30, e2, Int.toNat_natCast]
          refine evT (by omega) (evT (by rw [lrows_len]; omega) (evT (by rw [List.length_cons]; omega) (evT (by rw [List.length_cons]; omega) (evT n2 (evT n1 (evT hcr (evT (by rw [hrc]; exact hs) (evT (by rw [List.length_cons]; omega) (evT (by omega) ?_)))))))))
          exact hi
      · have hA : All8 cr w.length := fun q hq => by
          by_cases e : q = c
          · subst e; omega
          · exact hS q hq e
        obtain ⟨r, hr, hi, hl⟩ := hn out dn cr hR hA (Nat.le_refl _) (fun ⟨j2, h, h3⟩ => by
          obtain rfl : j = j2 := by omega
          exact absurd h3 hs)
        refine ⟨r, Ev.step (fun k => by rw [spec_FairOrder.l2]) ?_, Ev.step (fun k => by rw [impl_FairOrder.l1]) ?_, hl⟩
        · rw [hr30]
          refine evT n2 (evT n2 (evT n1 (evT (by omega) (evT hcr (evF (by rw [hrc]; exact hs) (evF (by omega) ?_))))))
          rw [e1]
          exact hr
        · rw [lrows_at _ _ _ c hc, hrow]
          have er : rd ((j : Int) :: lf (fun q => if q = j then false else un js dn (c : Int) q) js.length 0) 0 = (j : Int) := rfl
          rw [er, hr30]
          refine evT (by omega) (evT (by rw [lrows_len]; omega) (evT (by rw [List.length_cons]; omega) (evT (by rw [List.length_cons]; omega) (evT n2 (evT n1 (evT hcr (evF (by rw [hrc]; exact hs) (evF (by rw [List.length_cons]; omega) (evF (by omega) ?_)))))))))
          rw [nxt_eq hc hw4]
          exact hi
def wr (n c : Nat) : Nat := if c = n then 0 else c
theorem both_l1 (w : List Int) (js : List S30) (hw1 : 1 ≤ w.length) (u0 : Nat) (hn : ∀ (out' : List Int) (dn' : List Bool) (cr' : List Int), Rd w js out' dn' cr' → All8 cr' w.length → cnt0 dn' < u0 → ∃ r, Ev (fun k => spec_FairOrder.l0 k w js out' dn' cr') r ∧ Ev (fun k => impl_FairOrder.l0 k w js (lrows w.length js dn') cr' out' 0) r ∧ Pr js r) :
    ∀ (d c : Nat) (out : List Int) (dn : List Bool) (cr : List Int), c + d = w.length → Rd w js out dn cr → All8 cr w.length → (cnt0 dn < u0 ∨ (cnt0 dn ≤ u0 ∧ ∃ i, i < js.length ∧ un js dn (js.getD i z30).f0 i = true ∧ (c : Int) ≤ (js.getD i z30).f0)) →
    ∃ r, Ev (fun k => spec_FairOrder.l1 k w js out dn cr (c : Int)) r ∧ Ev (fun k => impl_FairOrder.l0 k w js (lrows w.length js dn) cr out (wr w.length c : Int)) r ∧ Pr js r := by
  intro d
  induction d with
  | zero =>
    intro c out dn cr hc hR hA hp
    have hlt : cnt0 dn < u0 := hp.elim id (fun ⟨_, i, hi, _, hic⟩ => by have := (hR.sz i hi).2.2.2; omega)
    obtain ⟨r, hr, hi, hl⟩ := hn out dn cr hR hA hlt
    refine ⟨r, Ev.step (fun k => by rw [spec_FairOrder.l1]) ?_, ?_, hl⟩
    · exact evF (by omega) hr
    · have e : wr w.length c = 0 := by unfold wr; rw [if_pos (by omega)]
      rw [e]
      exact hi
  | succ d ih =>
    intro c out dn cr hc hR hA hp
    have hw4 := hR.w4
    have hcw : c < w.length := by omega
    have ew : wr w.length c = c := by unfold wr; rw [if_neg (by omega)]
    rw [ew]
    by_cases hd : cnt0 dn = 0
    · refine ⟨out, spec_done w js hR hd (d + 1) c hc, Ev.step (fun k => by rw [impl_FairOrder.l0]) ?_, by have := hR.cnt; omega, hR.ord⟩
      exact evF (by have := hR.cnt; omega) (Ev.now _)
    have hlt : (out.length : Int) < (js.length : Int) := by have := hR.cnt; omega
    have e1 : wrap64 ((c : Int) + 1) = ((c + 1 : Nat) : Int) := by rw [w64 (by omega) (by omega)]; omega
    have enx : nxt w.length c = wr w.length (c + 1) := rfl
    obtain ⟨t, ht, hN⟩ := next_ev js hR.j60 dn hR.dl (c : Int)
    have hcr : (c : Int) < (cr.length : Int) := by rw [hR.cl]; omega
    by_cases hneg : t < 0
    · have hN2 : ∀ j, j < js.length → un js dn (c : Int) j = false := by
        rcases hN with ⟨_, h⟩ | ⟨j, h, _⟩
        · exact h
        · omega
      have hrow : lf (un js dn (c : Int)) js.length 0 = [] := lf_none _ _ (fun q _ h => hN2 q (by omega))
      obtain ⟨r, hr, hi, hl⟩ := ih (c + 1) out dn cr (by omega) hR hA (hp.imp id (fun ⟨h1, i, hi, hu, hic⟩ => ⟨h1, i, hi, hu, by
        have : (js.getD i z30).f0 ≠ (c : Int) := fun e => by rw [e, hN2 i hi] at hu; cases hu
        omega⟩))
      refine ⟨r, Ev.step (fun k => by rw [spec_FairOrder.l1]) ?_, Ev.step (fun k => by rw [impl_FairOrder.l0]) ?_, hl⟩
      · refine evT (by omega) (Ev.bind ht (evT hneg ?_))
        rw [e1]
        exact hr
      · rw [lrows_at _ _ _ c hcw, hrow]
        refine evT hlt (evT (by omega) (evT (by rw [lrows_len]; omega) (evT rfl (evF (by omega) ?_))))
        rw [nxt_eq hcw hw4, enx]
        exact hi
    · obtain ⟨j, rfl, hj, huj, hfj⟩ : ∃ j : Nat, t = (j : Int) ∧ j < js.length ∧ un js dn (c : Int) j = true ∧ ∀ i, i < j → un js dn (c : Int) i = false := by
        rcases hN with ⟨h, _⟩ | h
        · omega
        · exact h
      have hwt := hR.wt c hcw
      have h8 := hA c hcw
      have hrc : rd cr (c : Int) = cr.getD c 0 := by simp [rd]
      have hcl : c < cr.length := by rw [hR.cl]; exact hcw
      have e2 : wrap64 (rd cr (c : Int) + wrap64 (9 * rd w (c : Int))) = cr.getD c 0 + 9 * rd w (c : Int) := by rw [hrc, w64 (x := 9 * rd w (c : Int)) (by omega) (by omega), w64 (by omega) (by omega)]
      have hsz := hR.sz j hj
      have e3 : (cr.set c (cr.getD c 0 + 9 * rd w (c : Int))).getD c 0 = cr.getD c 0 + 9 * rd w (c : Int) := by rw [getD_set0 cr c c _ hcl, if_pos rfl]
      have hrow := lf_first huj js.length 0 (Nat.zero_le _) (by omega) (fun q _ h => hfj q h)
      obtain ⟨r, hr, hi, hl⟩ := both_l2 w js hcw (cnt0 dn) out dn (cr.set c (cr.getD c 0 + 9 * rd w (c : Int))) (j : Int) (Nat.le_refl _) (hR.credit c _)
        (fun q hq hqc => by rw [getD_set0 cr c q _ hcl, if_neg (fun h => hqc h.symm)]; exact hA q hq) (by rw [e3]; omega) (by rw [e3]; omega) (.inr ⟨j, rfl, hj, huj, hfj⟩)
        (fun out' dn' cr' a1 a2 a3 a4 => by
          rw [enx]
          refine ih (c + 1) out' dn' cr' (by omega) a1 a2 (.inl ?_)
          have := a4 ⟨j, rfl, by rw [e3]; omega⟩
          rcases hp with hp | ⟨hp, _⟩ <;> omega)
      refine ⟨r, Ev.step (fun k => by rw [spec_FairOrder.l1]) ?_, Ev.step (fun k => by rw [impl_FairOrder.l0]) ?_, hl⟩
      · refine evT (by omega) (Ev.bind ht (evF hneg (evT (by omega) (evT hcr ?_))))
        rw [e2, Int.toNat_natCast]
        exact hr
      · rw [lrows_at _ _ _ c hcw]
        refine evT hlt (evT (by omega) (evT (by rw [lrows_len]; omega) (evF (by rw [hrow, List.length_cons]; omega) (evT hcr (evT (by omega) ?_)))))
        rw [e2, Int.toNat_natCast]
        exact hi
theorem both_l0 (w : List Int) (js : List S30) (hw1 : 1 ≤ w.length) : ∀ (u : Nat) (out : List Int) (dn : List Bool) (cr : List Int), cnt0 dn ≤ u → Rd w js out dn cr → All8 cr w.length → ∃ r, Ev (fun k => spec_FairOrder.l0 k w js out dn cr) r ∧ Ev (fun k => impl_FairOrder.l0 k w js (lrows w.length js dn) cr out 0) r ∧ Pr js r := by
  intro u
  have stop : ∀ (out : List Int) (dn : List Bool) (cr : List Int), cnt0 dn = 0 → Rd w js out dn cr → ∃ r, Ev (fun k => spec_FairOrder.l0 k w js out dn cr) r ∧ Ev (fun k => impl_FairOrder.l0 k w js (lrows w.length js dn) cr out 0) r ∧ Pr js r := by
    intro out dn cr h0 hR
    refine ⟨out, Ev.step (fun k => by rw [spec_FairOrder.l0]) ?_, Ev.step (fun k => by rw [impl_FairOrder.l0]) ?_, by have := hR.cnt; omega, hR.ord⟩
    · exact evF (by have := hR.cnt; omega) (Ev.now _)
    · exact evF (by have := hR.cnt; omega) (Ev.now _)
  induction u with
  | zero => intro out dn cr hu hR hA; exact stop out dn cr (by omega) hR
  | succ u ih =>
    intro out dn cr hu hR hA
    by_cases hp : 0 < cnt0 dn
    · obtain ⟨i, hi, hi2⟩ := cnt0_pos dn hp
      have hil : i < js.length := by rw [← hR.dl]; exact hi
      obtain ⟨r, hr, him, hl⟩ := both_l1 w js hw1 (cnt0 dn) (fun out' dn' cr' a1 a2 a3 => ih out' dn' cr' (by omega) a1 a2) w.length 0 out dn cr (by omega) hR hA (.inr ⟨Nat.le_refl _, i, hil, by unfold un; rw [hi2, decide_eq_true rfl]; rfl, (hR.sz i hil).2.2.1⟩)
      have ew : wr w.length 0 = 0 := by unfold wr; split <;> rfl
      rw [ew] at him
      refine ⟨r, Ev.step (fun k => by rw [spec_FairOrder.l0]) ?_, him, hl⟩
      exact evT (by have := hR.cnt; omega) hr
    · exact stop out dn cr (by omega) hR

/-! ### the jobs by class -/
def lrowsTo (n : Nat) (js : List S30) (i : Nat) : List (List Int) := (List.range n).map fun (c : Nat) => lf (un js (List.replicate js.length false) (c : Int)) i 0
theorem un_all {js : List S30} {i : Nat} (hi : i < js.length) (c : Int) : un js (List.replicate js.length false) c i = decide ((js.getD i z30).f0 = c) := by
  unfold un
  have e : (List.replicate js.length false).getD i true = false := by simp [List.getD_eq_getElem?_getD, hi]
  rw [e]
  rfl
theorem lrowsTo_succ {n : Nat} {js : List S30} {i c : Nat} (hi : i < js.length) (hc : (js.getD i z30).f0 = (c : Int)) :
    lrowsTo n js (i + 1) = (lrowsTo n js i).set c (lf (un js (List.replicate js.length false) (c : Int)) i 0 ++ [(i : Int)]) := by
  unfold lrowsTo
  refine List.ext_getElem? fun m => ?_
  have hs : ∀ m : Nat, lf (un js (List.replicate js.length false) (m : Int)) (i + 1) 0 = lf (un js (List.replicate js.length false) (m : Int)) i 0 ++ (if (js.getD i z30).f0 = (m : Int) then [(i : Int)] else []) := fun m => by
    rw [lf_snoc, Nat.zero_add, un_all hi]
    by_cases e : (js.getD i z30).f0 = (m : Int)
    · rw [if_pos (decide_eq_true e), if_pos e]
    · rw [if_neg (by simpa using e), if_neg e]
  rw [List.getElem?_set]
  by_cases e : c = m
  · subst e
    by_cases hm : c < n
    · have := hs c
      rw [if_pos hc] at this
      simp [hm, this]
    · simp [hm]
  · rw [if_neg e, List.getElem?_map, List.getElem?_map]
    by_cases hm : m < n
    · have := hs m
      rw [if_neg (by omega), List.append_nil] at this
      simp [hm, this]
    · simp [hm]
theorem implByClass_l0 (n : Nat) (js : List S30) (hj : js.length ≤ 60) (hcl : ∀ i : Nat, i < js.length → 0 ≤ (js.getD i z30).f0 ∧ (js.getD i z30).f0 < (n : Int)) : ∀ d i : Nat, i + d = js.length →
    Ev (fun k => impl_byClass.l0 k (lrowsTo n js i) js (js.length : Int) (i : Int)) (lrows n js (List.replicate js.length false)) := by
  intro d
  induction d with
  | zero =>
    intro i hi
    obtain rfl : i = js.length := by omega
    refine Ev.step (fun k => by rw [impl_byClass.l0]) ?_
    exact evF (by omega) (Ev.now _)
  | succ d ih =>
    intro i hi
    have hil : i < js.length := by omega
    have hr := ih (i + 1) (by omega)
    have h0 := hcl i hil
    have hr30 : rd_T30 js (i : Int) = js.getD i z30 := by simp [rd_T30]
    obtain ⟨c, hc⟩ := Int.eq_ofNat_of_zero_le h0.1
    rw [hc] at h0
    rw [lrowsTo_succ hil hc] at hr
    have hlen : (lrowsTo n js i).length = n := by simp [lrowsTo]
    have hat : rd_L3 (lrowsTo n js i) (c : Int) = lf (un js (List.replicate js.length false) (c : Int)) i 0 := by
      simp [rd_L3, lrowsTo, List.getD_eq_getElem?_getD, show c < n by omega]
    have hl := lf_len (un js (List.replicate js.length false) (c : Int)) i 0
    refine Ev.step (fun k => by rw [impl_byClass.l0]) ?_
    rw [hr30, hc, hat, Int.toNat_natCast, show wrap64 ((i : Int) + 1) = ((i + 1 : Nat) : Int) by rw [w64 (by omega) (by omega)]; omega]
    exact evT (by omega) (evT (by omega) (evT (by omega) (evT (by omega) (evT (by rw [hlen]; omega) (evT (by omega) hr)))))
theorem implByClass_ev (w : List Int) (hw : w.length ≤ 4) (js : List S30) (hj : js.length ≤ 60) (hcl : ∀ i : Nat, i < js.length → 0 ≤ (js.getD i z30).f0 ∧ (js.getD i z30).f0 < (w.length : Int)) : Ev (fun k => impl_byClass.f k w js) (lrows w.length js (List.replicate js.length false)) := by
  simp only [impl_byClass.f]
  have e : lrowsTo w.length js 0 = List.replicate ((w.length : Int)).toNat [] := by
    unfold lrowsTo
    rw [Int.toNat_natCast]
    refine List.ext_getElem (by simp) fun j h1 h2 => by simp [lf]
  have hr := implByClass_l0 w.length js hj hcl js.length 0 (by omega)
  rw [e] at hr
  exact evT (by omega) (evT (by omega) hr)
/-- both orders are one, and in order within a class -/
theorem fair_ev (w : List Int) (hw : w.length ≤ 1000000) (js : List S30) (hj : js.length ≤ 1000000) : ∃ r, Ev (fun k => spec_FairOrder.f k w js) r ∧ Ev (fun k => impl_FairOrder.f k w js) r ∧ ((jv w js = false ∧ r = []) ∨ (jv w js = true ∧ js.length ≤ 60 ∧ Pr js r)) := by
  by_cases hv : jv w js = true
  · have hv2 := hv
    simp only [jv, Bool.and_eq_true, decide_eq_true_eq, List.all_eq_true] at hv2
    obtain ⟨hw1, hj6, hall⟩ := hv2
    obtain ⟨w1, w4, hwt⟩ := wok_elim hw1
    have hsz : ∀ i : Nat, i < js.length → 1 ≤ (js.getD i z30).f1 ∧ (js.getD i z30).f1 ≤ 9 ∧ 0 ≤ (js.getD i z30).f0 ∧ (js.getD i z30).f0 < (w.length : Int) := fun i hi => by
      have e : js.getD i z30 = js[i] := by simp [List.getD_eq_getElem?_getD, hi]
      have := hall _ (List.getElem_mem hi)
      simp only [jok, Bool.and_eq_true, decide_eq_true_eq] at this
      rw [e]
      omega
    have hR : Rd w js [] (List.replicate js.length false) (List.replicate w.length 0) := by
      refine ⟨by omega, w4, hsz, fun c hc => ?_, by simp, by simp, by rw [cnt0_rep]; simp, ⟨fun x hx => by simp at hx, fun p q hp hq => by simp at hq⟩, fun x hx => by simp at hx⟩
      exact hwt _ (rd_mem w (c : Int) (by omega) (by omega))
    obtain ⟨r, hr, hi, hl⟩ := both_l0 w js w1 js.length [] _ _ (by rw [cnt0_rep]; exact Nat.le_refl _) hR (fun j hj => by
      have e : (List.replicate w.length (0 : Int)).getD j 0 = 0 := by simp [List.getD_eq_getElem?_getD, hj]
      rw [e]; omega)
    refine ⟨r, ?_, ?_, .inr ⟨hv, by omega, hl⟩⟩
    · simp only [spec_FairOrder.f]
      refine evS rfl (Ev.bind (specJobs_ev w (by omega) js (by omega)) (evT hv (evT (by omega) (evT (by omega) (evT (by omega) (evT (by omega) ?_))))))
      rw [Int.toNat_natCast, Int.toNat_natCast]
      exact hr
    · simp only [impl_FairOrder.f]
      refine evS (implJobs_eq w js) (evT hv (Ev.bind (implByClass_ev w w4 js (by omega) (fun i hi => (hsz i hi).2.2)) (evT (by omega) (evT (by omega) ?_))))
      rw [Int.toNat_natCast]
      exact hi
  · refine ⟨[], ?_, ?_, .inl ⟨by simpa using hv, rfl⟩⟩
    · simp only [spec_FairOrder.f]
      exact evS rfl (Ev.bind (specJobs_ev w (by omega) js (by omega)) (evF hv (Ev.now _)))
    · simp only [impl_FairOrder.f]
      exact evS (implJobs_eq w js) (evF hv (Ev.now _))

end Go.Proofs.Ytnagdcigoaeicaa.Q
