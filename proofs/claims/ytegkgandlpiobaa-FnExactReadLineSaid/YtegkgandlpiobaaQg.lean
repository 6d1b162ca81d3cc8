/- Plain lemmas on what the printed functions compute (seat Ytegkgandlpiobaa, module Qg). Conditions: each lemma's own. -/
import Derived.Test.YtegkgandlpiobaaQd
import Derived.Test.YtegkgandlpiobaaPA0
import Derived.Test.YtegkgandlpiobaaPA9
set_option linter.unusedVariables false
set_option linter.unusedSimpArgs false
namespace Go.Proofs.Ytegkgandlpiobaa.Q
open Go Go.RowKit Go.Proofs.Ytegkgandlpiobaa.PA Go.Proofs.YtegkgandlpiobaaW.PrintWords Go.Proofs.YtegkgandlpiobaaW.PrintLast

/-! ### bits out of levels -/
def bsT (l : List Int) (k : Nat) : List Int := (List.range k).map fun i => l.getD (2 * i) 0
def okT (l : List Int) (k : Nat) : Prop := ∀ i, i < k → l.getD (2 * i) 0 ≠ l.getD (2 * i + 1) 0
instance (l : List Int) (k : Nat) : Decidable (okT l k) := by unfold okT; exact inferInstance
theorem bsT_succ (l : List Int) (k : Nat) : bsT l (k + 1) = bsT l k ++ [l.getD (2 * k) 0] := by simp [bsT, List.range_succ]
theorem bsT_length (l : List Int) (k : Nat) : (bsT l k).length = k := by simp [bsT]
def bitsOf (l : List Int) : List Int × Bool := if (l.length % 2 = 0 ∧ l.length ≤ 400 ∧ l.all bit1 = true) ∧ okT l (l.length / 2) then (bsT l (l.length / 2), true) else ([], false)
theorem bits_upto (l : List Int) (m : Nat) : ∀ k, k ≤ m → HB.bsOf l (HB.uptoI m k) = bsT l k ∧ ((HB.uptoI m k).all (fun x => decide (l.getD (2 * x.1) 0 ≠ l.getD (2 * x.1 + 1) 0)) = true ↔ okT l k) := by
  intro k
  induction k with
  | zero => intro _; exact ⟨rfl, by simp [HB.uptoI, okT]⟩
  | succ k ih =>
    intro hk
    obtain ⟨h1, h2⟩ := ih (by omega)
    rw [HB.uptoI_succ m k (by omega)]
    refine ⟨?_, ?_⟩
    · rw [bsT_succ, ← h1]
      simp [HB.bsOf]
    · rw [List.all_append, Bool.and_eq_true, h2]
      simp only [List.all_cons, List.all_nil, Bool.and_true, decide_eq_true_eq]
      constructor
      · rintro ⟨a, b⟩ i hi
        by_cases e : i = k
        · rw [e]; exact b
        · exact a i (by omega)
      · intro h
        exact ⟨fun i hi => h i (by omega), h k (by omega)⟩
theorem implBits_eq (l : List Int) : impl_BitsFrom.f l = some (bitsOf l) := by
  unfold impl_BitsFrom.f bitsOf
  rw [allBit_eq]
  obtain ⟨h1, h2⟩ := bits_upto l (l.length / 2) (l.length / 2) (Nat.le_refl _)
  by_cases c : l.length % 2 = 0 ∧ l.length ≤ 400 ∧ l.all bit1 = true
  · rw [if_pos c]
    unfold HB.bf
    by_cases d : okT l (l.length / 2)
    · rw [if_pos (h2.2 d), if_pos ⟨c, d⟩, h1]
    · rw [if_neg (fun x => d (h2.1 x)), if_neg (fun x => d x.2)]
  · rw [if_neg c, if_neg (fun x => c x.1)]
theorem bits_len (l : List Int) : (bitsOf l).1.length ≤ 200 := by
  unfold bitsOf
  split
  · rename_i h; show (bsT l (l.length / 2)).length ≤ 200; rw [bsT_length]; omega
  · simp
theorem specBits_l0 (l : List Int) (m : Nat) (hl : l.length = 2 * m) (hm : l.length ≤ 400) : ∀ (d i : Nat), i + d = m → okT l i →
    Ev (fun k => spec_BitsFrom.l0 k l (bsT l i) ((2 * i : Nat) : Int)) (if okT l m then (bsT l m, true) else ([], false)) := by
  intro d
  induction d with
  | zero =>
    intro i hi ho
    obtain rfl : i = m := by omega
    refine Ev.step (fun k => by rw [spec_BitsFrom.l0]) ?_
    exact evF (by omega) (evE (Ev.now _) (by rw [if_pos ho]))
  | succ d ih =>
    intro i hi ho
    have e1 : wrap64 (((2 * i : Nat) : Int) + 1) = ((2 * i + 1 : Nat) : Int) := by rw [w64 (by omega) (by omega)]; omega
    have e2 : wrap64 (((2 * i : Nat) : Int) + 2) = ((2 * (i + 1) : Nat) : Int) := by rw [w64 (by omega) (by omega)]; omega
    have hbl := bsT_length l i
    refine Ev.step (fun k => by rw [spec_BitsFrom.l0]) ?_
    rw [e1, e2, rdN, rdN]
    refine evT (by omega) (evT (by omega) (evT (by omega) (evT (by omega) ?_)))
    by_cases c : l.getD (2 * i) 0 = l.getD (2 * i + 1) 0
    · refine evT c (evE (Ev.now _) ?_)
      rw [if_neg (fun h => h i (by omega) c)]
    · refine evF c (evT (by omega) ?_)
      rw [← bsT_succ]
      exact ih (i + 1) (by omega) (fun j hj => by
        by_cases e : j = i
        · rw [e]; exact c
        · exact ho j (by omega))
theorem specBits_ev (l : List Int) (hl : l.length ≤ 1000000000000) : Ev (fun k => spec_BitsFrom.f k l) (bitsOf l) := by
  have out : ¬ (l.length % 2 = 0 ∧ l.length ≤ 400 ∧ l.all bit1 = true) → Ev (fun k => spec_BitsFrom.j0 k l [] true) (bitsOf l) := fun c => by
    refine Ev.step (fun k => by rw [spec_BitsFrom.j0]) ?_
    refine evT rfl (evE (Ev.now _) ?_)
    unfold bitsOf
    rw [if_neg (fun x => c x.1)]
  simp only [spec_BitsFrom.f]
  refine evS rfl (Ev.bind (l8Bits_ev l hl) ?_)
  by_cases c1 : l.all bit1 = true
  · refine evT c1 ?_
    by_cases c2 : l.length % 2 = 0
    · refine evT (by omega) ?_
      by_cases c3 : l.length ≤ 400
      · rw [show decide ((l.length : Int) > 400) = false from decide_eq_false (by omega)]
        refine Ev.step (fun k => by rw [spec_BitsFrom.j0]) ?_
        refine evF (by simp) ?_
        have := specBits_l0 l (l.length / 2) (by omega) c3 (l.length / 2) 0 (by omega) (fun i hi => by omega)
        refine evE this ?_
        unfold bitsOf
        by_cases d : okT l (l.length / 2)
        · rw [if_pos d, if_pos ⟨⟨c2, c3, c1⟩, d⟩]
        · rw [if_neg d, if_neg (fun x => d x.2)]
      · rw [show decide ((l.length : Int) > 400) = true from decide_eq_true (by omega)]
        exact out (fun x => c3 x.2.1)
    · exact evF (by omega) (out (fun x => c2 x.1))
  · exact evF c1 (out (fun x => c1 x.2.2))
/-- what levels hold -/
theorem lvTo_at (l : List Int) : ∀ (n i : Nat), i < n → (lvTo l n).getD (2 * i) 0 = l.getD i 0 ∧ (lvTo l n).getD (2 * i + 1) 0 = 1 - l.getD i 0 := by
  intro n
  induction n with
  | zero => intro i h; omega
  | succ n ih =>
    intro i hi
    have hl := lvTo_length l n
    by_cases e : i = n
    · subst e
      simp only [lvTo, List.getD_eq_getElem?_getD]
      rw [List.getElem?_append_right (by omega), List.getElem?_append_right (by omega), hl]
      simp
    · obtain ⟨h1, h2⟩ := ih i (by omega)
      simp only [List.getD_eq_getElem?_getD] at h1 h2
      simp only [lvTo, List.getD_eq_getElem?_getD]
      rw [List.getElem?_append_left (by omega), List.getElem?_append_left (by omega)]
      exact ⟨h1, h2⟩
theorem bits_back {l : List Int} (h1 : l.length ≤ 200) (h2 : l.all bit1 = true) : bitsOf (lvTo l l.length) = (l, true) := by
  have hl := lvTo_length l l.length
  have hb := lvTo_bits h2 l.length (Nat.le_refl _)
  have hat := lvTo_at l l.length
  unfold bitsOf
  have e : (lvTo l l.length).length / 2 = l.length := by omega
  rw [e, if_pos ⟨⟨by omega, by omega, hb⟩, fun i hi => by
    obtain ⟨a, b⟩ := hat i hi
    rw [a, b]; omega⟩]
  congr 1
  apply List.ext_getElem (by rw [bsT_length])
  intro i h3 h4
  have := (hat i h4).1
  simp only [bsT, List.getElem_map, List.getElem_range]
  rw [this, List.getD_eq_getElem?_getD, List.getElem?_eq_getElem h4]
  rfl
theorem bits_levels {l b : List Int} (h : bitsOf l = (b, true)) : levels b = l := by
  unfold bitsOf at h
  split at h
  · rename_i c
    obtain ⟨⟨c1, c2, c3⟩, c4⟩ := c
    obtain ⟨rfl, _⟩ := Prod.mk.inj h
    have hbl := bsT_length l (l.length / 2)
    have hm : ∀ i, i < l.length / 2 → (0 ≤ l.getD (2 * i) 0 ∧ l.getD (2 * i) 0 ≤ 1) ∧ (0 ≤ l.getD (2 * i + 1) 0 ∧ l.getD (2 * i + 1) 0 ≤ 1) := fun i hi =>
      ⟨bit1_of c3 (getD_mem (by omega)), bit1_of c3 (getD_mem (by omega))⟩
    have hbit : (bsT l (l.length / 2)).all bit1 = true := by
      rw [List.all_eq_true]
      intro x hx
      obtain ⟨i, hi, rfl⟩ := List.mem_map.1 hx
      exact decide_eq_true (hm i (List.mem_range.1 hi)).1
    unfold levels
    rw [if_pos ⟨by omega, hbit⟩]
    have hat := lvTo_at (bsT l (l.length / 2)) (bsT l (l.length / 2)).length
    have hlen := lvTo_length (bsT l (l.length / 2)) (bsT l (l.length / 2)).length
    apply List.ext_getElem (by omega)
    intro j h3 h4
    have hx : (bsT l (l.length / 2)).getD (j / 2) 0 = l.getD (2 * (j / 2)) 0 := by
      rw [List.getD_eq_getElem?_getD, List.getElem?_eq_getElem (by omega)]
      simp [bsT]
    obtain ⟨a1, a2⟩ := hat (j / 2) (by omega)
    obtain ⟨m1, m2⟩ := hm (j / 2) (by omega)
    have hne := c4 (j / 2) (by omega)
    rw [hx] at a1 a2
    have g1 : ∀ (xs : List Int) (q : Nat) (hq : q < xs.length), xs[q] = xs.getD q 0 := fun xs q hq => by simp [List.getD_eq_getElem?_getD, hq]
    rw [g1 _ j h3, g1 _ j h4]
    by_cases e : j % 2 = 0
    · have : j = 2 * (j / 2) := by omega
      rw [this]; exact a1
    · have : j = 2 * (j / 2) + 1 := by omega
      rw [this]
      have e2 : (2 * (j / 2) + 1) / 2 = j / 2 := by omega
      rw [a2]; omega
  · simp at h
theorem bits_no {l b : List Int} (h : bitsOf l = (b, false)) : b = [] := by
  unfold bitsOf at h
  split at h
  · simp at h
  · exact (Prod.mk.inj h).1.symm

end Go.Proofs.Ytegkgandlpiobaa.Q
