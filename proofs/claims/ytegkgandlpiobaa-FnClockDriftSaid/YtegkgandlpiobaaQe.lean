/- Plain lemmas on what the printed functions compute (seat Ytegkgandlpiobaa, module Qe). Conditions: each lemma's own. -/
import Derived.Test.YtegkgandlpiobaaQd
import Derived.Test.YtegkgandlpiobaaPA0
import Derived.Test.YtegkgandlpiobaaPA12
import Derived.Test.YtegkgandlpiobaaPA14
import Derived.Test.YtegkgandlpiobaaPA15
import Derived.Test.YtegkgandlpiobaaPA4
set_option linter.unusedVariables false
set_option linter.unusedSimpArgs false
namespace Go.Proofs.Ytegkgandlpiobaa.Q
open Go Go.RowKit Go.Proofs.Ytegkgandlpiobaa.PA Go.Proofs.YtegkgandlpiobaaW.PrintWords Go.Proofs.YtegkgandlpiobaaW.PrintLast

/-! ### ticks and their draws -/
def wid1 (x : Int) : Bool := decide (1 ≤ x ∧ x ≤ 40)
/-- the width of the level of place i -/
def wd (ws : List Int) (i : Nat) : Int := ws.getD (min i (ws.length - 1)) 0
def tkTo (l ws : List Int) : Nat → List Int
  | 0 => []
  | i + 1 => tkTo l ws i ++ List.replicate (wd ws i).toNat (l.getD i 0)
def tkOk (l ws : List Int) : Prop := l.all bit1 = true ∧ l.length ≤ 400 ∧ ws ≠ [] ∧ ws.all wid1 = true
instance (l ws : List Int) : Decidable (tkOk l ws) := by unfold tkOk; exact inferInstance
def ticks (l ws : List Int) : List Int := if tkOk l ws then tkTo l ws l.length else []
theorem wid1_of {l : List Int} (h : l.all wid1 = true) {x : Int} (hx : x ∈ l) : 1 ≤ x ∧ x ≤ 40 := of_decide_eq_true (List.all_eq_true.1 h x hx)
theorem wd_mem {ws : List Int} (h : ws ≠ []) (i : Nat) : wd ws i ∈ ws := by
  have := List.length_pos_iff.2 h
  exact getD_mem (by omega)
theorem tkTo_len {l ws : List Int} (hw : ws ≠ []) (h : ws.all wid1 = true) : ∀ i : Nat, i ≤ (tkTo l ws i).length ∧ (tkTo l ws i).length ≤ 40 * i := by
  intro i
  induction i with
  | zero => simp [tkTo]
  | succ i ih =>
    have := wid1_of h (wd_mem hw i)
    simp only [tkTo, List.length_append, List.length_replicate]
    omega
theorem ticks_len (l ws : List Int) : (ticks l ws).length ≤ 16000 := by
  unfold ticks
  split
  · rename_i h
    have := (tkTo_len (l := l) h.2.2.1 h.2.2.2 l.length).2
    have := h.2.1
    omega
  · simp
theorem specTicks_l2 (l ws : List Int) (i : Nat) (hi : i < l.length) (n : Nat) (hn : n ≤ 40) {r : List Int} :
    ∀ (d m : Nat) (acc : List Int), m + d = n → acc.length + d ≤ 1000000 →
    Ev (fun k => spec_TicksOf.l1 k l ws (acc ++ List.replicate d (l.getD i 0)) (wrap64 ((i : Int) + 1))) r →
    Ev (fun k => spec_TicksOf.l2 k l ws acc (i : Int) (n : Int) (m : Int)) r := by
  intro d
  induction d with
  | zero =>
    intro m acc hm ha h
    refine Ev.step (fun k => by rw [spec_TicksOf.l2]) ?_
    refine evF (by omega) ?_
    simpa using h
  | succ d ih =>
    intro m acc hm ha h
    have e : wrap64 ((m : Int) + 1) = ((m + 1 : Nat) : Int) := by rw [w64 (by omega) (by omega)]; omega
    refine Ev.step (fun k => by rw [spec_TicksOf.l2]) ?_
    refine evT (by omega) (evT (by omega) (evT (by omega) (evT (by omega) ?_)))
    rw [e, rdN]
    exact ih (m + 1) (acc ++ [l.getD i 0]) (by omega) (by simp; omega) (by simpa [List.replicate_succ] using h)
theorem specTicks_l1 (l ws : List Int) (hl : l.length ≤ 400) (hw : ws ≠ []) (hwl : ws.length ≤ 1000000000000) (hb : ws.all wid1 = true) : ∀ (d i : Nat), i + d = l.length →
    Ev (fun k => spec_TicksOf.l1 k l ws (tkTo l ws i) (i : Int)) (tkTo l ws l.length) := by
  intro d
  induction d with
  | zero =>
    intro i hi
    obtain rfl : i = l.length := by omega
    refine Ev.step (fun k => by rw [spec_TicksOf.l1]) ?_
    exact evF (by omega) (Ev.now _)
  | succ d ih =>
    intro i hi
    have hp := List.length_pos_iff.2 hw
    have e : wrap64 ((i : Int) + 1) = ((i + 1 : Nat) : Int) := by rw [w64 (by omega) (by omega)]; omega
    have em : mn (i : Int) (wrap64 ((ws.length : Int) - 1)) = ((min i (ws.length - 1) : Nat) : Int) := by
      rw [w64 (by omega) (by omega)]; unfold mn; split <;> omega
    have hb1 := wid1_of hb (wd_mem hw i)
    have hlen := tkTo_len (l := l) hw hb i
    refine Ev.step (fun k => by rw [spec_TicksOf.l1]) ?_
    rw [em]
    refine evT (by omega) (evT (by omega) (evT (by omega) ?_))
    rw [rdN]
    have e2 : ws.getD (min i (ws.length - 1)) 0 = (((wd ws i).toNat : Nat) : Int) := by unfold wd at hb1 ⊢; omega
    rw [e2]
    refine specTicks_l2 l ws i (by omega) (wd ws i).toNat (by omega) (wd ws i).toNat 0 _ (by omega) (by omega) ?_
    rw [e]
    exact ih (i + 1) (by omega)
theorem specTicks_l0 (l ws : List Int) (hwl : ws.length ≤ 1000000000000) (r : List Int) (hr : ws.all wid1 = true → Ev (fun k => spec_TicksOf.l1 k l ws [] 0) r) (hr2 : ¬ ws.all wid1 = true → r = []) : ∀ (d i : Nat), i + d = ws.length → (ws.take i).all wid1 = true →
    Ev (fun k => spec_TicksOf.l0 k l ws [] (i : Int)) r := by
  intro d
  induction d with
  | zero =>
    intro i hi ha
    rw [List.take_of_length_le (by omega)] at ha
    refine Ev.step (fun k => by rw [spec_TicksOf.l0]) ?_
    exact evF (by omega) (hr ha)
  | succ d ih =>
    intro i hi ha
    have e : wrap64 ((i : Int) + 1) = ((i + 1 : Nat) : Int) := by rw [w64 (by omega) (by omega)]; omega
    refine Ev.step (fun k => by rw [spec_TicksOf.l0]) ?_
    refine evT (by omega) (evT (by omega) ?_)
    rw [e, rd_at ws i (by omega)]
    have hin : spec_l1In.f (ws[i]'(by omega)) 1 40 = some (wid1 (ws[i]'(by omega))) := by
      unfold spec_l1In.f wid1
      by_cases h : ws[i]'(by omega) ≥ 1
      · rw [if_pos h]; simp; omega
      · rw [if_neg h]; simp; omega
    refine evS hin ?_
    by_cases hb : wid1 (ws[i]'(by omega)) = true
    · refine evT hb (ih (i + 1) (by omega) ?_)
      rw [List.take_succ_eq_append_getElem (by omega), List.all_append, ha]
      simp [hb]
    · refine evF hb (evE (Ev.now _) (hr2 ?_).symm)
      intro h
      exact hb (List.all_eq_true.1 h _ (List.getElem_mem _))
theorem specTicks_ev (l ws : List Int) (hl : l.length ≤ 1000000000000) (hwl : ws.length ≤ 1000000000000) : Ev (fun k => spec_TicksOf.f k l ws) (ticks l ws) := by
  simp only [spec_TicksOf.f]
  refine evS rfl (Ev.bind (l8Bits_ev l hl) ?_)
  unfold ticks
  by_cases hb : l.all bit1 = true
  · refine evT hb ?_
    by_cases h : l.length ≤ 400
    · refine evF (by omega) (Ev.step (fun k => by rw [spec_TicksOf.j0]) ?_)
      by_cases hw : ws = []
      · subst hw
        rw [if_neg (fun x => x.2.2.1 rfl)]
        exact evT (by simp) (Ev.now _)
      · have hp := List.length_pos_iff.2 hw
        refine evF (by simp; exact hw) ?_
        refine specTicks_l0 l ws hwl _ (fun ha => ?_) (fun ha => ?_) ws.length 0 (by omega) (by simp)
        · rw [if_pos ⟨hb, h, hw, ha⟩]
          exact specTicks_l1 l ws h hw hwl ha l.length 0 (by omega)
        · rw [if_neg (fun x => ha x.2.2.2)]
    · rw [if_neg (fun x => h x.2.1)]
      exact evT (by omega) (Ev.step (fun k => by rw [spec_TicksOf.j0]) (evT rfl (Ev.now _)))
  · rw [if_neg (fun x => hb x.1)]
    exact evF hb (Ev.step (fun k => by rw [spec_TicksOf.j0]) (evT rfl (Ev.now _)))

/-! ### the draws of levels and widths -/
theorem l8Draw_l0 (b : List Int) (hl : Bs b) : ∀ (d : Nat) (acc : List Int) (p : Int), acc.length + d ≤ 100 → 0 ≤ p → p + d ≤ 400000 → (∀ x ∈ acc, 0 ≤ x ∧ x ≤ 2) →
    ∃ xs q, Ev (fun k => spec_l8Draw.l0 k acc (d : Int) b p) (xs, q) ∧ xs.length ≤ 201 ∧ (∀ x ∈ xs, 0 ≤ x ∧ x ≤ 2) ∧ p ≤ q ∧ q ≤ p + d + 1 := by
  intro d
  induction d with
  | zero =>
    intro acc p ha hp hp2 hx
    obtain ⟨v, hv, h0, h1⟩ := pick_ev b hl p 40 hp (by omega) (by omega)
    by_cases c0 : v = 0
    · refine ⟨acc ++ [2], p + 1, ?_, by simp; omega, ?_, by omega, by omega⟩
      · refine Ev.step (fun k => by rw [spec_l8Draw.l0]) ?_
        refine evF (by omega) (Ev.bind hv ?_)
        refine evT c0 ?_
        exact evT (by omega) (Ev.now _)
      intro x hx'
      rcases List.mem_append.1 hx' with h | h
      · exact hx x h
      · simp at h; omega
    · by_cases c1 : v = 1
      · refine ⟨List.replicate 201 0, p + 1, ?_, by rw [List.length_replicate]; omega, ?_, by omega, by omega⟩
        · refine Ev.step (fun k => by rw [spec_l8Draw.l0]) ?_
          refine evF (by omega) (Ev.bind hv ?_)
          refine evF c0 ?_
          refine evT c1 ?_
          exact evT (by omega) (Ev.now _)
        intro x hx'
        have := (List.mem_replicate.1 hx').2
        omega
      · refine ⟨acc, p + 1, ?_, by omega, hx, by omega, by omega⟩
        refine Ev.step (fun k => by rw [spec_l8Draw.l0]) ?_
        refine evF (by omega) (Ev.bind hv ?_)
        refine evF c0 ?_
        exact evF c1 (Ev.now _)
  | succ d ih =>
    intro acc p ha hp hp2 hx
    obtain ⟨v, hv, h0, h1⟩ := pick_ev b hl p 2 hp (by omega) (by omega)
    obtain ⟨xs, q, h, k1, k2, k3, k4⟩ := ih (acc ++ [v]) (p + 1) (by simp; omega) (by omega) (by omega) (by
      intro x hx'
      rcases List.mem_append.1 hx' with h | h
      · exact hx x h
      · simp at h; subst h; have := h1 (by omega); omega)
    refine ⟨xs, q, ?_, k1, k2, by omega, by omega⟩
    refine Ev.step (fun k => by rw [spec_l8Draw.l0]) ?_
    refine evT (by omega) (Ev.bind hv ?_)
    refine evT (by omega) ?_
    rw [show wrap64 (((d + 1 : Nat) : Int) - 1) = (d : Int) by rw [w64 (by omega) (by omega)]; omega]
    exact h
theorem l8Draw_ev (b : List Int) (hl : Bs b) (p : Int) (hp : 0 ≤ p) (hp2 : p ≤ 300000) :
    ∃ xs q, Ev (fun k => spec_l8Draw.f k b p) (xs, q) ∧ xs.length ≤ 201 ∧ (∀ x ∈ xs, 0 ≤ x ∧ x ≤ 2) ∧ p ≤ q ∧ q ≤ p + 70 := by
  obtain ⟨v, hv, hm⟩ := num_ev b hl p ([4, 1, 0, 8, 20, 3, 60] : List Int) hp (by omega) (by simp) (by simp)
  have hb : 0 ≤ v ∧ v ≤ 60 := by simp at hm; omega
  obtain ⟨n, rfl⟩ := Int.eq_ofNat_of_zero_le hb.1
  obtain ⟨xs, q, h, k1, k2, k3, k4⟩ := l8Draw_l0 b hl n [] (p + 1) (by simp; omega) (by omega) (by omega) (by simp)
  refine ⟨xs, q, ?_, k1, k2, by omega, by omega⟩
  simp only [spec_l8Draw.f]
  exact Ev.bind hv h
theorem l8Widths_l0 (b : List Int) (hl : Bs b) (w j : Int) (hw : 0 ≤ w ∧ w ≤ 1000) (hj : 0 ≤ j ∧ j ≤ w) : ∀ (d : Nat) (acc : List Int) (p : Int), acc.length + d ≤ 100 → 0 ≤ p → p + d ≤ 400000 → (∀ x ∈ acc, 1 ≤ x ∧ x ≤ w + j + 1) →
    ∃ xs, Ev (fun k => spec_l8Widths.l0 k w acc j (d : Int) b p) (xs, p + d) ∧ xs.length = acc.length + d ∧ (∀ x ∈ xs, 1 ≤ x ∧ x ≤ w + j + 1) := by
  intro d
  induction d with
  | zero =>
    intro acc p ha hp hp2 hx
    refine ⟨acc, Ev.step (fun k => by rw [spec_l8Widths.l0]) (evF (by omega) (evE (Ev.now _) (by simp))), by simp, hx⟩
  | succ d ih =>
    intro acc p ha hp hp2 hx
    obtain ⟨v, hv, h0, h1⟩ := pick_ev b hl p (2 * j + 1) hp (by omega) (by omega)
    have h1' := h1 (by omega)
    have e1 : wrap64 (wrap64 (2 * j) + 1) = 2 * j + 1 := by rw [w64 (x := 2 * j) (by omega) (by omega), w64 (by omega) (by omega)]
    have e2 : wrap64 (wrap64 (w - j) + v) = w - j + v := by rw [w64 (x := w - j) (by omega) (by omega), w64 (by omega) (by omega)]
    have hb : 1 ≤ mx 1 (w - j + v) ∧ mx 1 (w - j + v) ≤ w + j + 1 := by unfold mx; split <;> omega
    obtain ⟨xs, h, k1, k2⟩ := ih (acc ++ [mx 1 (w - j + v)]) (p + 1) (by simp; omega) (by omega) (by omega) (by
      intro x hx'
      rcases List.mem_append.1 hx' with h | h
      · exact hx x h
      · simp at h; subst h; exact hb)
    refine ⟨xs, Ev.step (fun k => by rw [spec_l8Widths.l0]) ?_, by simp at k1; omega, k2⟩
    rw [e1]
    refine evT (by omega) (Ev.bind hv (evT (by omega) ?_))
    show Ev (fun k => spec_l8Widths.l0 k w (acc ++ [mx 1 (wrap64 (wrap64 (w - j) + v))]) j (wrap64 (((d + 1 : Nat) : Int) - 1)) b (p + 1)) (xs, p + ((d + 1 : Nat) : Int))
    rw [e2, show wrap64 (((d + 1 : Nat) : Int) - 1) = (d : Int) by rw [w64 (by omega) (by omega)]; omega]
    exact evE h (by congr 1; omega)
theorem l8Widths_ev (b : List Int) (hl : Bs b) (p w : Int) (hp : 0 ≤ p) (hp2 : p ≤ 300000) (hw : 0 ≤ w ∧ w ≤ 1000) :
    ∃ xs q, Ev (fun k => spec_l8Widths.f k b p w) (xs, q) ∧ (1 ≤ xs.length ∧ xs.length ≤ 30) ∧ (∀ x ∈ xs, 1 ≤ x ∧ x ≤ 2 * w + 1) ∧ p ≤ q ∧ q ≤ p + 40 := by
  obtain ⟨v, hv, hm⟩ := num_ev b hl p ([4, 4, 5, 2] : List Int) hp (by omega) (by simp) (by simp)
  have hvb : 2 ≤ v ∧ v ≤ 5 := by simp at hm; omega
  obtain ⟨n, hn, hm2⟩ := num_ev b hl (p + 1) ([9, 1, 30, 2] : List Int) (by omega) (by omega) (by simp) (by simp)
  have hnb : 1 ≤ n ∧ n ≤ 30 := by simp at hm2; omega
  obtain ⟨m, rfl⟩ := Int.eq_ofNat_of_zero_le (show 0 ≤ n by omega)
  have hj := tdiv_bounds w hw.1 v (by omega)
  obtain ⟨xs, h, k1, k2⟩ := l8Widths_l0 b hl w (w.tdiv v) hw hj m [] (p + 1 + 1) (by simp; omega) (by omega) (by omega) (by simp)
  refine ⟨xs, p + 1 + 1 + m, ?_, by simp at k1; omega, fun x hx => by have := k2 x hx; omega, by omega, by omega⟩
  simp only [spec_l8Widths.f]
  refine Ev.bind hv (evF (by omega) (Ev.bind hn ?_))
  show Ev (fun k => spec_l8Widths.l0 k w [] (wrap64 (w.tdiv v)) (m : Int) b (p + 1 + 1)) _
  rw [w64 (x := w.tdiv v) (by omega) (by omega)]
  exact h

end Go.Proofs.Ytegkgandlpiobaa.Q
