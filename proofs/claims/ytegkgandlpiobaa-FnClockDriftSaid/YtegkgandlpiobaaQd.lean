/- Plain lemmas on what the printed functions compute (seat Ytegkgandlpiobaa, module Qd). Conditions: each lemma's own. -/
import Derived.Test.YtegkgandlpiobaaQc
import Derived.Test.YtegkgandlpiobaaPA0
import Derived.Test.YtegkgandlpiobaaPA4
import Derived.Test.YtegkgandlpiobaaPA5
import Derived.Test.YtegkgandlpiobaaPA6
import Derived.Test.YtegkgandlpiobaaPA7
set_option linter.unusedVariables false
set_option linter.unusedSimpArgs false
namespace Go.Proofs.Ytegkgandlpiobaa.Q
open Go Go.RowKit Go.Proofs.Ytegkgandlpiobaa.PA Go.Proofs.YtegkgandlpiobaaW.PrintWords Go.Proofs.YtegkgandlpiobaaW.PrintLast

/-! ### levels of bits -/
def bit1 (x : Int) : Bool := decide (0 ≤ x ∧ x ≤ 1)
def lvTo (l : List Int) : Nat → List Int
  | 0 => []
  | i + 1 => lvTo l i ++ [l.getD i 0, 1 - l.getD i 0]
def levels (l : List Int) : List Int := if l.length ≤ 200 ∧ l.all bit1 = true then lvTo l l.length else []
theorem lvTo_length (l : List Int) (i : Nat) : (lvTo l i).length = 2 * i := by
  induction i with
  | zero => rfl
  | succ i ih => simp [lvTo, ih]; omega
theorem bit1_of {l : List Int} (h : l.all bit1 = true) {x : Int} (hx : x ∈ l) : 0 ≤ x ∧ x ≤ 1 := of_decide_eq_true (List.all_eq_true.1 h x hx)
theorem getD_mem {l : List Int} {i : Nat} (h : i < l.length) : l.getD i 0 ∈ l := by
  rw [show l.getD i 0 = l[i] by simp [List.getD_eq_getElem?_getD, h]]; exact List.getElem_mem _
theorem rdN (l : List Int) (i : Nat) : rd l (i : Int) = l.getD i 0 := by simp [rd]
theorem lvTo_bits {l : List Int} (h : l.all bit1 = true) : ∀ i : Nat, i ≤ l.length → (lvTo l i).all bit1 = true := by
  intro i
  induction i with
  | zero => intro _; rfl
  | succ i ih =>
    intro hi
    have := bit1_of h (getD_mem (l := l) (i := i) (by omega))
    simp only [lvTo, List.all_append, ih (by omega), Bool.true_and, List.all_cons, List.all_nil, Bool.and_true, bit1, Bool.and_eq_true, decide_eq_true_eq]
    omega
theorem levels_len (l : List Int) : (levels l).length ≤ 400 := by
  unfold levels
  split
  · rw [lvTo_length]; omega
  · simp
theorem levels_bits (l : List Int) : (levels l).all bit1 = true := by
  unfold levels
  split
  · rename_i h; exact lvTo_bits h.2 _ (Nat.le_refl _)
  · rfl
theorem l8Bits_l0 (l : List Int) (hl : l.length ≤ 1000000000000) : ∀ (d i : Nat), i + d = l.length → Ev (fun k => spec_l8Bits.l0 k l (i : Int)) ((l.drop i).all bit1) := by
  intro d
  induction d with
  | zero =>
    intro i hi
    refine Ev.step (fun k => by rw [spec_l8Bits.l0]) ?_
    refine evF (by omega) (evE (Ev.now _) ?_)
    rw [List.drop_of_length_le (by omega)]; rfl
  | succ d ih =>
    intro i hi
    have e : wrap64 ((i : Int) + 1) = ((i + 1 : Nat) : Int) := by rw [w64 (by omega) (by omega)]; omega
    refine Ev.step (fun k => by rw [spec_l8Bits.l0]) ?_
    refine evT (by omega) (evT (by omega) ?_)
    rw [e, rd_at l i (by omega), List.drop_eq_getElem_cons (by omega : i < l.length), List.all_cons]
    have hin : spec_l1In.f (l[i]'(by omega)) 0 1 = some (bit1 (l[i]'(by omega))) := by
      unfold spec_l1In.f bit1
      by_cases h : l[i]'(by omega) ≥ 0
      · rw [if_pos h]; simp; omega
      · rw [if_neg h]; simp; omega
    refine evS hin ?_
    cases hb : bit1 (l[i]'(by omega)) with
    | true => exact evT rfl (evE (ih (i + 1) (by omega)) (by simp))
    | false => exact evF (by simp) (Ev.now _)
theorem l8Bits_ev (l : List Int) (hl : l.length ≤ 1000000000000) : Ev (fun k => spec_l8Bits.f k l) (l.all bit1) := by
  simp only [spec_l8Bits.f]
  exact l8Bits_l0 l hl l.length 0 (by omega)
theorem specLevels_l0 (l : List Int) (hl : l.length ≤ 200) (hb : l.all bit1 = true) : ∀ (d i : Nat), i + d = l.length →
    Ev (fun k => spec_LevelsOf.l0 k l (lvTo l i) (i : Int)) (lvTo l l.length) := by
  intro d
  induction d with
  | zero =>
    intro i hi
    obtain rfl : i = l.length := by omega
    refine Ev.step (fun k => by rw [spec_LevelsOf.l0]) ?_
    exact evF (by omega) (Ev.now _)
  | succ d ih =>
    intro i hi
    have e : wrap64 ((i : Int) + 1) = ((i + 1 : Nat) : Int) := by rw [w64 (by omega) (by omega)]; omega
    have hx := bit1_of hb (getD_mem (l := l) (i := i) (by omega))
    have hlen := lvTo_length l i
    refine Ev.step (fun k => by rw [spec_LevelsOf.l0]) ?_
    rw [e, rdN, w64 (x := 1 - l.getD i 0) (by omega) (by omega)]
    exact evT (by omega) (evT (by omega) (evS rfl (evT (by simp; omega) (ih (i + 1) (by omega)))))
theorem specLevels_ev (l : List Int) (hl : l.length ≤ 1000000000000) : Ev (fun k => spec_LevelsOf.f k l) (levels l) := by
  simp only [spec_LevelsOf.f]
  refine evS rfl (Ev.bind (l8Bits_ev l hl) ?_)
  rw [w64 (x := 2 * (l.length : Int)) (by omega) (by omega)]
  unfold levels
  by_cases hb : l.all bit1 = true
  · rw [hb]
    refine evT rfl (Ev.step (fun k => by rw [spec_LevelsOf.j0]) ?_)
    by_cases h : l.length ≤ 200
    · rw [if_pos ⟨h, rfl⟩]
      exact evF (by simp; omega) (specLevels_l0 l h hb l.length 0 (by omega))
    · rw [if_neg (fun x => h x.1)]
      exact evT (by simp; omega) (Ev.now _)
  · rw [if_neg (fun x => hb x.2)]
    exact evF hb (Ev.step (fun k => by rw [spec_LevelsOf.j0]) (evT rfl (Ev.now _)))
theorem implLevels_l0 (l : List Int) (hl : l.length ≤ 200) (hb : l.all bit1 = true) : ∀ (d i : Nat), i + d = l.length →
    Ev (fun k => impl_LevelsOf.l0 k (lvTo l i) l (l.length : Int) (i : Int)) (lvTo l l.length) := by
  intro d
  induction d with
  | zero =>
    intro i hi
    obtain rfl : i = l.length := by omega
    refine Ev.step (fun k => by rw [impl_LevelsOf.l0]) ?_
    exact evF (by omega) (Ev.now _)
  | succ d ih =>
    intro i hi
    have e : wrap64 ((i : Int) + 1) = ((i + 1 : Nat) : Int) := by rw [w64 (by omega) (by omega)]; omega
    have hx := bit1_of hb (getD_mem (l := l) (i := i) (by omega))
    have hlen := lvTo_length l i
    refine Ev.step (fun k => by rw [impl_LevelsOf.l0]) ?_
    rw [e, rdN, w64 (x := 1 - l.getD i 0) (by omega) (by omega)]
    exact evT (by omega) (evT (by omega) (evT (by omega) (evS rfl (evT (by simp; omega) (ih (i + 1) (by omega))))))
theorem allBit_eq (l : List Int) : l.all (fun n => decide (n = 0 ∨ n = 1)) = l.all bit1 := by
  congr 1
  funext n
  unfold bit1
  exact decide_eq_decide.2 (by omega)
theorem implLevels_ev (l : List Int) (hl : l.length ≤ 1000000000000) : Ev (fun k => impl_LevelsOf.f k l) (levels l) := by
  simp only [impl_LevelsOf.f]
  unfold levels
  by_cases h : l.length ≤ 200
  · refine evF (by omega) (evS (show impl_all_isBit.f l = some (l.all bit1) by unfold impl_all_isBit.f; rw [allBit_eq]) ?_)
    refine Ev.step (fun k => by rw [impl_LevelsOf.j0]) ?_
    by_cases hb : l.all bit1 = true
    · rw [if_pos ⟨h, hb⟩]
      exact evF (by simp [hb]) (implLevels_l0 l h hb l.length 0 (by omega))
    · rw [if_neg (fun x => hb x.2)]
      exact evT (by simpa using hb) (Ev.now _)
  · rw [if_neg (fun x => h x.1)]
    exact evT (by omega) (Ev.step (fun k => by rw [impl_LevelsOf.j0]) (evT rfl (Ev.now _)))

end Go.Proofs.Ytegkgandlpiobaa.Q
