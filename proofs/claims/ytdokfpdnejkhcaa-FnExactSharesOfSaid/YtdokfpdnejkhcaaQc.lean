/- Plain lemmas on what the printed functions compute (seat Ytdokfpdnejkhcaa, module Qc). Conditions: each lemma's own. -/
import Derived.Test.YtdokfpdnejkhcaaQb
import Derived.Test.YtdokfpdnejkhcaaPA0
import Derived.Test.YtdokfpdnejkhcaaPA10
import Derived.Test.YtdokfpdnejkhcaaPA11
import Derived.Test.YtdokfpdnejkhcaaPA6
import Derived.Test.YtdokfpdnejkhcaaPA7
set_option linter.unusedVariables false
set_option linter.unusedSimpArgs false
namespace Go.Proofs.Ytdokfpdnejkhcaa.Q
open Go Go.RowKit Go.Proofs.Ytdokfpdnejkhcaa.PA Go.Proofs.YtdokfpdnejkhcaaW.PrintWords Go.Proofs.YtdokfpdnejkhcaaW.PrintLast

/-! ### sums over flows -/
def sumTo (g : Nat → Int) : Nat → Int
  | 0 => 0
  | n + 1 => sumTo g n + g n
theorem sumTo_congr {g h : Nat → Int} (n : Nat) (e : ∀ i, i < n → g i = h i) : sumTo g n = sumTo h n := by
  induction n with
  | zero => rfl
  | succ n ih =>
    simp only [sumTo]
    rw [ih (fun i hi => e i (by omega)), e n (by omega)]
theorem sumTo_bd {g : Nat → Int} (h : ∀ i, 0 ≤ g i ∧ g i ≤ 1) (n : Nat) : 0 ≤ sumTo g n ∧ sumTo g n ≤ n := by
  induction n with
  | zero => simp [sumTo]
  | succ n ih => simp only [sumTo]; have := h n; omega
theorem sumTo_zero {g : Nat → Int} (n : Nat) (e : ∀ i, i < n → g i = 0) : sumTo g n = 0 := by
  induction n with
  | zero => rfl
  | succ n ih => simp only [sumTo]; rw [ih (fun i hi => e i (by omega)), e n (by omega)]; rfl
def mv (a b : List Bool) (f : Nat) : Int := if member a f = member b f then 0 else 1
theorem mv_bd (a b : List Bool) (f : Nat) : 0 ≤ mv a b f ∧ mv a b f ≤ 1 := by unfold mv; split <;> omega
theorem mv_comm (a b : List Bool) (f : Nat) : mv a b f = mv b a f := by
  unfold mv
  by_cases h : member a f = member b f
  · rw [if_pos h, if_pos h.symm]
  · rw [if_neg h, if_neg (fun x => h x.symm)]
/-- how many flows move -/
def moved (a b : List Bool) : Int := if isB a ∧ a.length = b.length then sumTo (mv a b) 225 else -1
theorem implMoved_l0 (a b : List Bool) : ∀ (d i : Nat), i + d = 225 →
    Ev (fun k => impl_MovedFlows.l0 k a b (sumTo (mv a b) i) (i : Int)) (sumTo (mv a b) 225) := by
  intro d
  induction d with
  | zero =>
    intro i hi
    obtain rfl : i = 225 := by omega
    exact Ev.step (fun k => by rw [impl_MovedFlows.l0]) (evF (by omega) (Ev.now _))
  | succ d ih =>
    intro i hi
    have hb := sumTo_bd (mv_bd a b) i
    have e : wrap64 ((i : Int) + 1) = ((i + 1 : Nat) : Int) := by rw [w64 (by omega) (by omega)]; omega
    refine Ev.step (fun k => by rw [impl_MovedFlows.l0]) (evT (by omega) (Ev.bind (implMember_ev a i) (Ev.bind (implMember_ev b i) ?_)))
    rw [e]
    have hs : sumTo (mv a b) (i + 1) = sumTo (mv a b) i + mv a b i := rfl
    by_cases h : member a i = member b i
    · refine evT h ?_
      have := ih (i + 1) (by omega)
      rw [hs, show mv a b i = 0 from if_pos h, Int.add_zero] at this
      exact this
    · refine evF h ?_
      have := ih (i + 1) (by omega)
      rw [hs, show mv a b i = 1 from if_neg h] at this
      rw [w64 (x := sumTo (mv a b) i + 1) (by omega) (by omega)]
      exact this
theorem implMoved_ev (a b : List Bool) : Ev (fun k => impl_MovedFlows.f k a b) (moved a b) := by
  unfold moved
  simp only [impl_MovedFlows.f]
  refine evS (isBundle_eq a) ?_
  by_cases h1 : isB a
  · refine evT (decide_eq_true h1) ?_
    by_cases h2 : a.length = b.length
    · rw [if_pos ⟨h1, h2⟩]
      refine Ev.step (fun k => by rw [impl_MovedFlows.j0]) (evF (by simp [h2]) ?_)
      exact implMoved_l0 a b 225 0 (by omega)
    · rw [if_neg (fun h => h2 h.2)]
      exact Ev.step (fun k => by rw [impl_MovedFlows.j0]) (evT (by simp; omega) (Ev.now _))
  · rw [if_neg (fun h => h1 h.1)]
    refine evF (by simp [h1]) ?_
    exact Ev.step (fun k => by rw [impl_MovedFlows.j0]) (evT rfl (Ev.now _))
theorem specMoved_l0 (a b : List Bool) : ∀ (d i : Nat), i + d = 225 →
    Ev (fun k => spec_MovedFlows.l0 k a b (sumTo (mv a b) i) (i : Int)) (sumTo (mv a b) 225) := by
  intro d
  induction d with
  | zero =>
    intro i hi
    obtain rfl : i = 225 := by omega
    exact Ev.step (fun k => by rw [spec_MovedFlows.l0]) (evF (by omega) (Ev.now _))
  | succ d ih =>
    intro i hi
    have hb := sumTo_bd (mv_bd a b) i
    have e : wrap64 ((i : Int) + 1) = ((i + 1 : Nat) : Int) := by rw [w64 (by omega) (by omega)]; omega
    refine Ev.step (fun k => by rw [spec_MovedFlows.l0]) (evT (by omega) (Ev.bind (specMember_ev a i) (Ev.bind (specMember_ev b i) ?_)))
    rw [e]
    have hs : sumTo (mv a b) (i + 1) = sumTo (mv a b) i + mv a b i := rfl
    by_cases h : member a i = member b i
    · refine evT h ?_
      have := ih (i + 1) (by omega)
      rw [hs, show mv a b i = 0 from if_pos h, Int.add_zero] at this
      exact this
    · refine evF h ?_
      have := ih (i + 1) (by omega)
      rw [hs, show mv a b i = 1 from if_neg h] at this
      rw [w64 (x := sumTo (mv a b) i + 1) (by omega) (by omega)]
      exact this
theorem specMoved_ev (a b : List Bool) : Ev (fun k => spec_MovedFlows.f k a b) (moved a b) := by
  unfold moved
  simp only [spec_MovedFlows.f]
  refine evS (l11Bundle_eq a) ?_
  by_cases h1 : isB a
  · refine evT (decide_eq_true h1) ?_
    by_cases h2 : a.length = b.length
    · rw [if_pos ⟨h1, h2⟩]
      refine Ev.step (fun k => by rw [spec_MovedFlows.j0]) (evF (by simp [h2]) ?_)
      exact specMoved_l0 a b 225 0 (by omega)
    · rw [if_neg (fun h => h2 h.2)]
      exact Ev.step (fun k => by rw [spec_MovedFlows.j0]) (evT (by simp; omega) (Ev.now _))
  · rw [if_neg (fun h => h1 h.1)]
    refine evF (by simp [h1]) ?_
    exact Ev.step (fun k => by rw [spec_MovedFlows.j0]) (evT rfl (Ev.now _))
theorem moved_comm (a b : List Bool) : moved a b = moved b a := by
  unfold moved
  by_cases h : isB a ∧ a.length = b.length
  · rw [if_pos h, if_pos ⟨by have := h.1; unfold isB at *; omega, h.2.symm⟩]
    exact sumTo_congr 225 (fun i _ => mv_comm a b i)
  · rw [if_neg h, if_neg (fun x => h ⟨by have := x.1; unfold isB at *; omega, x.2.symm⟩)]
theorem moved_bd (a b : List Bool) : moved a b = -1 ∨ (0 ≤ moved a b ∧ isB a ∧ a.length = b.length ∧ moved a b = sumTo (mv a b) 225) := by
  unfold moved
  by_cases h : isB a ∧ a.length = b.length
  · rw [if_pos h]
    have := sumTo_bd (mv_bd a b) 225
    exact .inr ⟨this.1, h.1, h.2, rfl⟩
  · rw [if_neg h]; exact .inl rfl
/-- one when the flow has the wire -/
def has (up : List Bool) (w : Nat) (f : Nat) : Int := if member up f = w then 1 else 0
theorem has_bd (up : List Bool) (w f : Nat) : 0 ≤ has up w f ∧ has up w f ≤ 1 := by unfold has; split <;> omega
/-- how many of the first n flows each wire has -/
def sh (up : List Bool) (n : Nat) : List Int := (List.range up.length).map fun w => sumTo (has up w) n
theorem sh_length (up : List Bool) (n : Nat) : (sh up n).length = up.length := by simp [sh]
theorem sh_get (up : List Bool) (n w : Nat) (h : w < (sh up n).length) : (sh up n)[w] = sumTo (has up w) n := by simp [sh]
theorem sh_none (up : List Bool) (n : Nat) (h : member up n = -1) : sh up (n + 1) = sh up n := by
  apply List.ext_getElem (by simp [sh_length])
  intro w h1 h2
  rw [sh_get, sh_get]
  simp only [sumTo]
  rw [show has up w n = 0 from if_neg (by omega)]
  omega
theorem sh_some (up : List Bool) (n m : Nat) (h : member up n = m) (hm : m < up.length) : sh up (n + 1) = (sh up n).set m ((sh up n)[m]'(by rw [sh_length]; exact hm) + 1) := by
  apply List.ext_getElem (by simp [sh_length])
  intro w h1 h2
  rw [List.getElem_set]
  rw [sh_get]
  simp only [sumTo]
  by_cases e : m = w
  · subst e
    rw [if_pos rfl, sh_get, show has up m n = 1 from if_pos h]
  · rw [if_neg e, sh_get, show has up w n = 0 from if_neg (by omega)]
    omega
def shares (up : List Bool) : List Int := if isB up then sh up 225 else []
theorem sh_zero (up : List Bool) : List.replicate ((up.length : Int) : Int).toNat 0 = sh up 0 := by
  apply List.ext_getElem (by simp [sh_length])
  intro w h1 h2
  rw [sh_get]
  simp [sumTo]
theorem implShares_l0 (up : List Bool) : ∀ (d i : Nat), i + d = 225 →
    Ev (fun k => impl_SharesOf.l0 k up (sh up i) (i : Int)) (sh up 225) := by
  intro d
  induction d with
  | zero =>
    intro i hi
    obtain rfl : i = 225 := by omega
    exact Ev.step (fun k => by rw [impl_SharesOf.l0]) (evF (by omega) (Ev.now _))
  | succ d ih =>
    intro i hi
    have e : wrap64 ((i : Int) + 1) = ((i + 1 : Nat) : Int) := by rw [w64 (by omega) (by omega)]; omega
    refine Ev.step (fun k => by rw [impl_SharesOf.l0]) (evT (by omega) (Ev.bind (implMember_ev up i) ?_))
    rw [e]
    have hb := member_bd up i
    by_cases h : member up i = -1
    · refine evF (by omega) ?_
      have := ih (i + 1) (by omega)
      rw [sh_none up i h] at this
      exact this
    · obtain ⟨m, hm⟩ := Int.eq_ofNat_of_zero_le (show 0 ≤ member up i by omega)
      have hlt : m < up.length := by omega
      have hlt2 : m < (sh up i).length := by rw [sh_length]; exact hlt
      rw [hm]
      refine evT (by omega) (evT (by omega) (evT (by omega) ?_))
      have := ih (i + 1) (by omega)
      rw [sh_some up i m hm hlt] at this
      rw [rd_at (sh up i) m hlt2]
      have hbd := sumTo_bd (has_bd up m) i
      rw [sh_get] at this
      rw [sh_get, w64 (x := sumTo (has up m) i + 1) (by omega) (by omega)]
      exact this
theorem implShares_ev (up : List Bool) : Ev (fun k => impl_SharesOf.f k up) (shares up) := by
  unfold shares
  simp only [impl_SharesOf.f]
  refine evS (isBundle_eq up) ?_
  by_cases h1 : isB up
  · have h2 := h1.2
    rw [if_pos h1]
    refine evT (decide_eq_true h1) (evT (by omega) (evT (by omega) ?_))
    rw [sh_zero]
    exact implShares_l0 up 225 0 (by omega)
  · rw [if_neg h1]
    exact evF (by simp [h1]) (Ev.now _)
theorem specShares_l0 (up : List Bool) : ∀ (d i : Nat), i + d = 225 →
    Ev (fun k => spec_SharesOf.l0 k up (sh up i) (i : Int)) (sh up 225) := by
  intro d
  induction d with
  | zero =>
    intro i hi
    obtain rfl : i = 225 := by omega
    exact Ev.step (fun k => by rw [spec_SharesOf.l0]) (evF (by omega) (Ev.now _))
  | succ d ih =>
    intro i hi
    have e : wrap64 ((i : Int) + 1) = ((i + 1 : Nat) : Int) := by rw [w64 (by omega) (by omega)]; omega
    refine Ev.step (fun k => by rw [spec_SharesOf.l0]) (evT (by omega) (Ev.bind (specMember_ev up i) ?_))
    rw [e]
    have hb := member_bd up i
    by_cases h : member up i = -1
    · refine evF (by omega) ?_
      have := ih (i + 1) (by omega)
      rw [sh_none up i h] at this
      exact this
    · obtain ⟨m, hm⟩ := Int.eq_ofNat_of_zero_le (show 0 ≤ member up i by omega)
      have hlt : m < up.length := by omega
      have hlt2 : m < (sh up i).length := by rw [sh_length]; exact hlt
      rw [hm]
      refine evT (by omega) (evT (by omega) (evT (by omega) ?_))
      have := ih (i + 1) (by omega)
      rw [sh_some up i m hm hlt] at this
      rw [rd_at (sh up i) m hlt2]
      have hbd := sumTo_bd (has_bd up m) i
      rw [sh_get] at this
      rw [sh_get, w64 (x := sumTo (has up m) i + 1) (by omega) (by omega)]
      exact this
theorem specShares_ev (up : List Bool) : Ev (fun k => spec_SharesOf.f k up) (shares up) := by
  unfold shares
  simp only [spec_SharesOf.f]
  refine evS (l11Bundle_eq up) ?_
  by_cases h1 : isB up
  · have h2 := h1.2
    rw [if_pos h1]
    refine evT (decide_eq_true h1) (evT (by omega) (evT (by omega) ?_))
    rw [sh_zero]
    exact specShares_l0 up 225 0 (by omega)
  · rw [if_neg h1]
    exact evF (by simp [h1]) (Ev.now _)
theorem shares_length (up : List Bool) : (shares up).length = if isB up then up.length else 0 := by
  unfold shares
  by_cases h : isB up
  · rw [if_pos h, if_pos h, sh_length]
  · rw [if_neg h, if_neg h]; rfl
/-! ### when a wire goes down -/
theorem member_drop (up dn : List Bool) (d : Nat) (f : Int) (hl : up.length = dn.length) (hu : up[d]? = some true) (hd : dn[d]? = some false)
    (he : ∀ j, j ≠ d → up[j]? = dn[j]?) (hB : isB up) (hf : isFl f) : (member up f = member dn f ↔ member up f ≠ d) := by
  have hB' : isB dn := by unfold isB at *; omega
  have h1 := member_best up f hB hf
  have h2 := member_best dn f hB' hf
  constructor
  · intro e e2
    rw [← e, e2] at h2
    rcases h2 with ⟨h3, _⟩ | ⟨j, h3, _, h4, _⟩
    · omega
    · obtain rfl : d = j := by omega
      rw [hd] at h4
      simp at h4
  · intro hne
    refine best_unique f dn dn.length _ _ ?_ h2
    rcases h1 with ⟨h3, h4⟩ | ⟨j, h3, hj, hju, h4⟩
    · have hdl : d < up.length := by
        rcases Nat.lt_or_ge d up.length with h | h
        · exact h
        · rw [List.getElem?_eq_none h] at hu; cases hu
      exact absurd hu (h4 d hdl)
    · have hjd : j ≠ d := by intro e; subst e; exact hne h3
      refine .inr ⟨j, h3, by omega, by rw [← he j hjd]; exact hju, fun i hi hiu => ?_⟩
      have hid : i ≠ d := by intro e; subst e; rw [hd] at hiu; simp at hiu
      exact h4 i (by omega) (by rw [he i hid]; exact hiu)
theorem moved_one (up dn : List Bool) (d : Nat) (hl : up.length = dn.length) (hu : up[d]? = some true) (hd : dn[d]? = some false)
    (he : ∀ j, j ≠ d → up[j]? = dn[j]?) (hB : isB up) : sumTo (mv up dn) 225 = sumTo (has up d) 225 := by
  refine sumTo_congr 225 (fun i hi => ?_)
  have h := member_drop up dn d i hl hu hd he hB ⟨by omega, by omega⟩
  unfold mv has
  by_cases e : member up i = d
  · rw [if_pos e, if_neg (fun x => (h.1 x) e)]
  · rw [if_neg e, if_pos (h.2 e)]
theorem moved_self (a : List Bool) : moved a a = -1 ∨ moved a a = 0 := by
  unfold moved
  by_cases h : isB a ∧ a.length = a.length
  · rw [if_pos h]
    exact .inr (sumTo_zero 225 (fun i _ => if_pos rfl))
  · rw [if_neg h]; exact .inl rfl

/-! ### lists that are compared, copied, marked -/
theorem wnInts_l0 (a b : List Int) (hl : a.length = b.length) (hb : a.length ≤ 1000000000000) : ∀ d i : Nat, i + d = a.length →
    Ev (fun k => laws_wnInts.l0 k b a (a.length : Int) (i : Int)) (decide (a.drop i = b.drop i)) := by
  intro d
  induction d with
  | zero =>
    intro i hi
    refine Ev.step (fun k => by rw [laws_wnInts.l0]) (evF (by omega) (evE (Ev.now _) ?_))
    rw [List.drop_of_length_le (by omega), List.drop_of_length_le (by omega)]
    simp
  | succ d ih =>
    intro i hi
    have ha : a.drop i = a[i]'(by omega) :: a.drop (i + 1) := List.drop_eq_getElem_cons (by omega)
    have hb' : b.drop i = b[i]'(by omega) :: b.drop (i + 1) := List.drop_eq_getElem_cons (by omega)
    have e : wrap64 ((i : Int) + 1) = ((i + 1 : Nat) : Int) := by rw [w64 (by omega) (by omega)]; omega
    refine Ev.step (fun k => by rw [laws_wnInts.l0]) (evT (by omega) (evT (by omega) (evT (by omega) (evT (by omega) ?_))))
    rw [rd_at b i (by omega), rd_at a i (by omega), e]
    by_cases h : b[i]'(by omega) = a[i]'(by omega)
    · refine evT h (evE (ih (i + 1) (by omega)) ?_)
      rw [ha, hb']
      exact decide_eq_decide.2 ⟨fun e => by rw [h, e], fun e => (List.cons.inj e).2⟩
    · refine evF h (evE (Ev.now _) ?_)
      rw [ha, hb']
      exact (decide_eq_false (fun e => h (List.cons.inj e).1.symm)).symm
theorem wnInts_ev (a b : List Int) (hb : a.length ≤ 1000000000000) : Ev (fun k => laws_wnInts.f k a b) (decide (a = b)) := by
  simp only [laws_wnInts.f]
  by_cases h : a.length = b.length
  · exact evT (by omega) (evE (wnInts_l0 a b h hb a.length 0 (by omega)) (by simp))
  · exact evF (by omega) (evE (Ev.now _) (by simp; intro e; exact h (by rw [e])))

end Go.Proofs.Ytdokfpdnejkhcaa.Q
