/- Plain lemmas on what the printed functions compute (seat Ytegkgandlpiobaa, module Qf). Conditions: each lemma's own. -/
import Derived.Test.YtegkgandlpiobaaQe
import Derived.Test.YtegkgandlpiobaaPA0
import Derived.Test.YtegkgandlpiobaaPA16
import Derived.Test.YtegkgandlpiobaaPA17
import Derived.Test.YtegkgandlpiobaaPA18
import Derived.Test.YtegkgandlpiobaaPA22
import Derived.Test.YtegkgandlpiobaaPA23
import Derived.Test.YtegkgandlpiobaaPA4
import Derived.Test.YtegkgandlpiobaaPA6
set_option linter.unusedVariables false
set_option linter.unusedSimpArgs false
namespace Go.Proofs.Ytegkgandlpiobaa.Q
open Go Go.RowKit Go.Proofs.Ytegkgandlpiobaa.PA Go.Proofs.YtegkgandlpiobaaW.PrintWords Go.Proofs.YtegkgandlpiobaaW.PrintLast

/-! ### ticks as the program makes them -/
theorem repeat_eq (v a : Int) (h1 : 1 ≤ a) (h2 : a ≤ 1000) : slices_Repeat_int_int.f ([v] : List Int) a = some (List.replicate a.toNat v) := by
  unfold slices_Repeat_int_int.f
  rw [if_pos ⟨rfl, h1, h2⟩]
  rfl
theorem implTicks_l0 (l ws : List Int) (hl : l.length ≤ 400) (hw : ws ≠ []) (hwl : ws.length ≤ 1000000000000) (hb : ws.all wid1 = true) : ∀ (d i : Nat), i + d = l.length →
    Ev (fun k => impl_TicksOf.l0 k ws (tkTo l ws i) l (l.length : Int) (i : Int)) (tkTo l ws l.length) := by
  intro d
  induction d with
  | zero =>
    intro i hi
    obtain rfl : i = l.length := by omega
    refine Ev.step (fun k => by rw [impl_TicksOf.l0]) ?_
    exact evF (by omega) (Ev.now _)
  | succ d ih =>
    intro i hi
    have hp := List.length_pos_iff.2 hw
    have e : wrap64 ((i : Int) + 1) = ((i + 1 : Nat) : Int) := by rw [w64 (by omega) (by omega)]; omega
    have em : mn (i : Int) (wrap64 ((ws.length : Int) - 1)) = ((min i (ws.length - 1) : Nat) : Int) := by
      rw [w64 (by omega) (by omega)]; unfold mn; split <;> omega
    have hb1 := wid1_of hb (wd_mem hw i)
    have hlen := tkTo_len (l := l) hw hb i
    refine Ev.step (fun k => by rw [impl_TicksOf.l0]) ?_
    rw [em, e, rdN, rdN]
    refine evT (by omega) (evT (by omega) (evT (by omega) (evT (by omega) (evT (by omega) ?_))))
    refine evS (repeat_eq (l.getD i 0) (ws.getD (min i (ws.length - 1)) 0) (by unfold wd at hb1; omega) (by unfold wd at hb1; omega)) ?_
    refine evT (by rw [List.length_replicate]; unfold wd at hb1; omega) ?_
    exact ih (i + 1) (by omega)
theorem allWid_eq (l : List Int) : l.all (fun n => decide (1 ≤ n ∧ n ≤ 40)) = l.all wid1 := rfl
theorem implTicks_ev (l ws : List Int) (hl : l.length ≤ 1000000000000) (hwl : ws.length ≤ 1000000000000) : Ev (fun k => impl_TicksOf.f k l ws) (ticks l ws) := by
  simp only [impl_TicksOf.f]
  unfold ticks
  have out : ∀ (h : ¬ tkOk l ws), Ev (fun k => impl_TicksOf.j0 k l ws true) (if tkOk l ws then tkTo l ws l.length else []) := fun h => by
    rw [if_neg h]
    exact Ev.step (fun k => by rw [impl_TicksOf.j0]) (evT rfl (Ev.now _))
  by_cases h : l.length ≤ 400
  · refine evF (by omega) (evS (show impl_all_isBit.f l = some (l.all bit1) by unfold impl_all_isBit.f; rw [allBit_eq]) ?_)
    by_cases hb : l.all bit1 = true
    · refine evT hb ?_
      by_cases hw : ws = []
      · subst hw
        exact evT rfl (out (fun x => x.2.2.1 rfl))
      · have hp := List.length_pos_iff.2 hw
        refine evF (by omega) (evS (show impl_all_isWidth.f ws = some (ws.all wid1) from rfl) ?_)
        by_cases ha : ws.all wid1 = true
        · rw [ha, if_pos ⟨hb, h, hw, ha⟩]
          refine Ev.step (fun k => by rw [impl_TicksOf.j0]) ?_
          exact evF (by simp) (implTicks_l0 l ws h hw hwl ha l.length 0 (by omega))
        · have ha' : ws.all wid1 = false := by simpa using ha
          rw [ha']
          exact out (fun x => ha x.2.2.2)
    · exact evF hb (out (fun x => hb x.1))
  · exact evT (by omega) (out (fun x => h x.2.1))

/-! ### levels out of ticks -/
def many (w n : Int) : Nat := if 2 * n ≥ 3 * w then 2 else 1
def lfTo (l : List Int) (w : Int) : List Int → Nat → List Int → Option (List Int)
  | acc, _, [] => some acc
  | acc, s, n :: rs => if 2 * n < w ∨ 2 * n ≥ 5 * w then none else lfTo l w (acc ++ List.replicate (many w n) (l.getD s 0)) (s + n.toNat) rs
def lfOk (l : List Int) (w : Int) : Prop := l.all bit1 = true ∧ 1 ≤ w ∧ w ≤ 40 ∧ l.length ≤ 16000
instance (l : List Int) (w : Int) : Decidable (lfOk l w) := by unfold lfOk; exact inferInstance
def lfEnd (o : Option (List Int)) : List Int × Bool := match o with | none => ([], false) | some x => if x.length > 400 then ([], false) else (x, true)
def levelsFrom (l : List Int) (w : Int) : List Int × Bool := if lfOk l w then lfEnd (lfTo l w [] 0 (runs l)) else ([], false)
theorem implFrom_l0 (l : List Int) (hl : l.length ≤ 16000) (w : Int) (hw : 1 ≤ w ∧ w ≤ 40) (rs : List Int) (hrl : rs.length ≤ 16000) : ∀ (post pre : List Int) (s : Nat) (acc : List Int), rs = pre ++ post → IsRuns l s post l.length → acc.length ≤ 2 * pre.length →
    Ev (fun k => impl_LevelsFrom.l0 k l w acc (s : Int) rs (rs.length : Int) (pre.length : Int)) (lfEnd (lfTo l w acc s post)) := by
  intro post
  induction post with
  | nil =>
    intro pre s acc hp h ha
    refine Ev.step (fun k => by rw [impl_LevelsFrom.l0]) ?_
    refine evF (by simp [hp]) ?_
    show Ev _ (if acc.length > 400 then ([], false) else (acc, true))
    by_cases h4 : acc.length > 400
    · rw [if_pos h4]; exact evT (by omega) (Ev.now _)
    · rw [if_neg h4]; exact evF (by omega) (Ev.now _)
  | cons n post ih =>
    intro pre s acc hp h ha
    have hlen : rs.length = pre.length + (post.length + 1) := by simp [hp]
    have e : rd rs (pre.length : Int) = n := by rw [rd_at rs pre.length (by omega)]; simp [hp]
    have hle := h.2.2.2.le
    have h1 := h.1
    obtain ⟨m, rfl⟩ := Int.eq_ofNat_of_zero_le (show 0 ≤ n by omega)
    have hmt : ((m : Nat) : Int).toNat = m := Int.toNat_natCast m
    have hs0 : (0 : Int) ≤ (s : Int) := Int.natCast_nonneg s
    have hs1 : (s : Int) < (l.length : Int) := by omega
    have hac : acc.length + 2 < 17592186044416 := by omega
    have hac1 : acc.length < 17592186044416 := by omega
    have hac2 : acc.length + 1 < 17592186044416 := by omega
    have e2 : wrap64 ((pre.length : Int) + 1) = (((pre ++ [((m : Nat) : Int)]).length : Nat) : Int) := by rw [w64 (by omega) (by omega)]; simp
    have e3 : wrap64 (2 * ((m : Nat) : Int)) = 2 * (m : Int) := w64 (by omega) (by omega)
    have e4 : wrap64 (5 * w) = 5 * w := w64 (by omega) (by omega)
    have e5 : wrap64 (3 * w) = 3 * w := w64 (by omega) (by omega)
    have e6 : wrap64 ((s : Int) + ((m : Nat) : Int)) = ((s + m : Nat) : Int) := by rw [w64 (by omega) (by omega)]; omega
    have next : ∀ c : Nat, 1 ≤ c → c ≤ 2 → Ev (fun k => impl_LevelsFrom.l0 k l w (acc ++ List.replicate c (l.getD s 0)) ((s + m : Nat) : Int) rs (rs.length : Int) (((pre ++ [((m : Nat) : Int)]).length : Nat) : Int)) (lfEnd (lfTo l w (acc ++ List.replicate c (l.getD s 0)) (s + m) post)) := fun c hc hc2 =>
      ih (pre ++ [((m : Nat) : Int)]) (s + m) _ (by simp [hp]) (by simpa using h.2.2.2) (by simp; omega)
    simp only [lfTo]
    refine Ev.step (fun k => by rw [impl_LevelsFrom.l0]) ?_
    refine evT (by omega) (evT (by omega) (evT (by omega) ?_))
    rw [e, e3, e4]
    by_cases c1 : 2 * (m : Int) < w
    · rw [if_pos (.inl c1)]
      refine evT c1 ?_
      refine Ev.step (fun k => by rw [impl_LevelsFrom.j2]) ?_
      exact evT rfl (Ev.now _)
    · refine evF c1 ?_
      refine Ev.step (fun k => by rw [impl_LevelsFrom.j2]) ?_
      by_cases c2 : 2 * (m : Int) ≥ 5 * w
      · rw [if_pos (.inr c2)]
        exact evT (by simpa using c2) (Ev.now _)
      · rw [if_neg (by omega), hmt]
        refine evF (by simpa using c2) ?_
        rw [e3, e5, e6, e2, rdN]
        by_cases c3 : 2 * (m : Int) ≥ 3 * w
        · have := next 2 (by omega) (by omega)
          rw [show many w (m : Int) = 2 from if_pos c3]
          refine evT c3 (evT hs0 (evT hs1 ?_))
          refine evS (repeat_eq (l.getD s 0) 2 (by decide) (by decide)) ?_
          exact evT hac this
        · have := next 1 (by omega) (by omega)
          rw [show many w (m : Int) = 1 from if_neg c3]
          refine evF c3 (evT hs0 (evT hs1 ?_))
          refine evS (repeat_eq (l.getD s 0) 1 (by decide) (by decide)) ?_
          exact evT hac2 this
theorem runs_le (l : List Int) : (runs l).length ≤ l.length := (runsTo_len l l.length).1
theorem implFrom_ev (l : List Int) (hl : l.length ≤ 1000000000000) (w : Int) : Ev (fun k => impl_LevelsFrom.f k l w) (levelsFrom l w) := by
  simp only [impl_LevelsFrom.f]
  unfold levelsFrom
  have out : ∀ (h : ¬ lfOk l w), Ev (fun k => impl_LevelsFrom.j0 k l w true) (if lfOk l w then lfEnd (lfTo l w [] 0 (runs l)) else ([], false)) := fun h => by
    rw [if_neg h]
    exact Ev.step (fun k => by rw [impl_LevelsFrom.j0]) (evT rfl (Ev.now _))
  have hin : impl_isWidth.f w = some (decide (1 ≤ w ∧ w ≤ 40)) := by
    unfold impl_isWidth.f impl_within.f
    by_cases h : 1 ≤ w <;> simp [h]
  refine evS hin ?_
  by_cases hw : 1 ≤ w ∧ w ≤ 40
  · refine evT (by simpa using hw) ?_
    by_cases h : l.length ≤ 16000
    · refine evF (by omega) (evS (show impl_all_isBit.f l = some (l.all bit1) by unfold impl_all_isBit.f; rw [allBit_eq]) ?_)
      by_cases hb : l.all bit1 = true
      · rw [hb, if_pos ⟨hb, hw.1, hw.2, h⟩]
        refine Ev.step (fun k => by rw [impl_LevelsFrom.j0]) ?_
        refine evF (by simp) (Ev.bind (implRuns_ev l hl) ?_)
        have := runs_le l
        exact implFrom_l0 l h w hw (runs l) (by omega) (runs l) [] 0 [] (by simp) (runs_is l) (by simp)
      · have hb' : l.all bit1 = false := by simpa using hb
        rw [hb']
        exact out (fun x => hb x.1)
    · exact evT (by omega) (out (fun x => h x.2.2.2))
  · exact evF (by simpa using hw) (out (fun x => hw ⟨x.2.1, x.2.2.1⟩))
theorem specFrom_l0 (l : List Int) (hl : l.length ≤ 16000) (w : Int) (hw : 1 ≤ w ∧ w ≤ 40) (rs : List Int) (hrl : rs.length ≤ 16000) : ∀ (post pre : List Int) (s : Nat) (acc : List Int), rs = pre ++ post → IsRuns l s post l.length → acc.length ≤ 2 * pre.length →
    Ev (fun k => spec_LevelsFrom.l0 k l w acc rs (s : Int) (pre.length : Int)) (lfEnd (lfTo l w acc s post)) := by
  intro post
  induction post with
  | nil =>
    intro pre s acc hp h ha
    refine Ev.step (fun k => by rw [spec_LevelsFrom.l0]) ?_
    refine evF (by simp [hp]) ?_
    show Ev _ (if acc.length > 400 then ([], false) else (acc, true))
    by_cases h4 : acc.length > 400
    · rw [if_pos h4]; exact evT (by omega) (Ev.now _)
    · rw [if_neg h4]; exact evF (by omega) (Ev.now _)
  | cons n post ih =>
    intro pre s acc hp h ha
    have hlen : rs.length = pre.length + (post.length + 1) := by simp [hp]
    have e : rd rs (pre.length : Int) = n := by rw [rd_at rs pre.length (by omega)]; simp [hp]
    have hle := h.2.2.2.le
    have h1 := h.1
    obtain ⟨m, rfl⟩ := Int.eq_ofNat_of_zero_le (show 0 ≤ n by omega)
    have hmt : ((m : Nat) : Int).toNat = m := Int.toNat_natCast m
    have hs0 : (0 : Int) ≤ (s : Int) := Int.natCast_nonneg s
    have hs1 : (s : Int) < (l.length : Int) := by omega
    have hac : acc.length + 2 < 17592186044416 := by omega
    have hac1 : acc.length < 17592186044416 := by omega
    have hac2 : acc.length + 1 < 17592186044416 := by omega
    have e2 : wrap64 ((pre.length : Int) + 1) = (((pre ++ [((m : Nat) : Int)]).length : Nat) : Int) := by rw [w64 (by omega) (by omega)]; simp
    have e3 : wrap64 (2 * ((m : Nat) : Int)) = 2 * (m : Int) := w64 (by omega) (by omega)
    have e4 : wrap64 (5 * w) = 5 * w := w64 (by omega) (by omega)
    have e5 : wrap64 (3 * w) = 3 * w := w64 (by omega) (by omega)
    have e6 : wrap64 ((s : Int) + ((m : Nat) : Int)) = ((s + m : Nat) : Int) := by rw [w64 (by omega) (by omega)]; omega
    have next : ∀ c : Nat, 1 ≤ c → c ≤ 2 → Ev (fun k => spec_LevelsFrom.l0 k l w (acc ++ List.replicate c (l.getD s 0)) rs ((s + m : Nat) : Int) (((pre ++ [((m : Nat) : Int)]).length : Nat) : Int)) (lfEnd (lfTo l w (acc ++ List.replicate c (l.getD s 0)) (s + m) post)) := fun c hc hc2 =>
      ih (pre ++ [((m : Nat) : Int)]) (s + m) _ (by simp [hp]) (by simpa using h.2.2.2) (by simp; omega)
    simp only [lfTo]
    refine Ev.step (fun k => by rw [spec_LevelsFrom.l0]) ?_
    refine evT (by omega) (evT (by omega) ?_)
    rw [e, e3, e4]
    by_cases c1 : 2 * (m : Int) < w
    · rw [if_pos (.inl c1)]
      refine evT c1 ?_
      refine Ev.step (fun k => by rw [spec_LevelsFrom.j2]) ?_
      exact evT rfl (Ev.now _)
    · refine evF c1 ?_
      refine Ev.step (fun k => by rw [spec_LevelsFrom.j2]) ?_
      by_cases c2 : 2 * (m : Int) ≥ 5 * w
      · rw [if_pos (.inr c2)]
        exact evT (by simpa using c2) (Ev.now _)
      · rw [if_neg (by omega), hmt]
        refine evF (by simpa using c2) ?_
        rw [e3, e5, e6, e2, rdN]
        refine evT hs0 (evT hs1 (evT hac1 (evS rfl ?_)))
        by_cases c3 : 2 * (m : Int) ≥ 3 * w
        · have := next 2 (by omega) (by omega)
          rw [show many w (m : Int) = 2 from if_pos c3]
          refine evT c3 (evT (show (acc ++ [l.getD s 0]).length < 17592186044416 by rw [List.length_append]; exact hac2) ?_)
          rw [List.append_assoc]
          exact this
        · have := next 1 (by omega) (by omega)
          rw [show many w (m : Int) = 1 from if_neg c3]
          exact evF c3 this
theorem specFrom_ev (l : List Int) (hl : l.length ≤ 1000000000000) (w : Int) : Ev (fun k => spec_LevelsFrom.f k l w) (levelsFrom l w) := by
  simp only [spec_LevelsFrom.f]
  unfold levelsFrom
  have out : ∀ (h : ¬ lfOk l w), Ev (fun k => spec_LevelsFrom.j0 k l w [] true) (if lfOk l w then lfEnd (lfTo l w [] 0 (runs l)) else ([], false)) := fun h => by
    rw [if_neg h]
    exact Ev.step (fun k => by rw [spec_LevelsFrom.j0]) (evT rfl (Ev.now _))
  have hin : spec_l1In.f w 1 40 = some (decide (1 ≤ w ∧ w ≤ 40)) := by
    unfold spec_l1In.f
    by_cases h : 1 ≤ w <;> simp [h]
  refine evS rfl (Ev.bind (l8Bits_ev l hl) ?_)
  by_cases hb : l.all bit1 = true
  · refine evT hb (evS hin ?_)
    by_cases hw : 1 ≤ w ∧ w ≤ 40
    · refine evT (by simpa using hw) ?_
      by_cases h : l.length ≤ 16000
      · rw [if_pos ⟨hb, hw.1, hw.2, h⟩]
        refine Ev.step (fun k => by rw [spec_LevelsFrom.j0]) ?_
        refine evF (by simp; omega) (Ev.bind (specRuns_ev l hl) ?_)
        have := runs_le l
        exact specFrom_l0 l h w hw (runs l) (by omega) (runs l) [] 0 [] (by simp) (runs_is l) (by simp)
      · rw [show decide ((l.length : Int) > 16000) = true from decide_eq_true (by omega)]
        exact out (fun x => h x.2.2.2)
    · exact evF (by simpa using hw) (out (fun x => hw ⟨x.2.1, x.2.2.1⟩))
  · exact evF hb (out (fun x => hb x.1))
theorem lfEnd_len (o : Option (List Int)) : (lfEnd o).1.length ≤ 400 := by
  unfold lfEnd
  split
  · simp
  · split
    · simp
    · simp only []; omega
theorem levelsFrom_len (l : List Int) (w : Int) : (levelsFrom l w).1.length ≤ 400 := by
  unfold levelsFrom
  split
  · exact lfEnd_len _
  · simp

end Go.Proofs.Ytegkgandlpiobaa.Q
