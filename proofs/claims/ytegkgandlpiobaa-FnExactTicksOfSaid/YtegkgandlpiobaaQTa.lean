/- Plain lemmas on what the printed functions compute (seat Ytegkgandlpiobaa, module QTa). Conditions: each lemma's own. -/
import Derived.Test.YtegkgandlpiobaaQa
import Derived.Test.YtegkgandlpiobaaPA0
import Derived.Test.YtegkgandlpiobaaPA1
import Derived.Test.YtegkgandlpiobaaPA11
import Derived.Test.YtegkgandlpiobaaPA12
import Derived.Test.YtegkgandlpiobaaPA15
import Derived.Test.YtegkgandlpiobaaPA16
import Derived.Test.YtegkgandlpiobaaPA2
import Derived.Test.YtegkgandlpiobaaPA3
import Derived.Test.YtegkgandlpiobaaPA4
import Derived.Test.YtegkgandlpiobaaPA5
import Derived.Test.YtegkgandlpiobaaPA6
import Derived.Test.YtegkgandlpiobaaPA7
set_option linter.unusedVariables false
set_option linter.unusedSimpArgs false
namespace Go.Proofs.Ytegkgandlpiobaa.Q
open Go Go.RowKit Go.Proofs.Ytegkgandlpiobaa.PA Go.Proofs.YtegkgandlpiobaaW.PrintWords Go.Proofs.YtegkgandlpiobaaW.PrintLast

/-! ### lists that are compared, copied, marked -/
theorem wnInts_l0 (a b : List Int) (hl : a.length = b.length) (hb : a.length ≤ 1000000000000) : ∀ d i : Nat, i + d = a.length →
    Ev (fun k => laws_wnInts.l0 k b a (a.length : Int) (i : Int)) (decide (a.drop i = b.drop i)) := by
  intro d
  induction d with
  | zero =>
    intro i hi
    refine Ev.step (fun k => by rw [laws_wnInts.l0]) ?_
    refine evF (by omega) (evE (Ev.now _) ?_)
    rw [List.drop_of_length_le (by omega), List.drop_of_length_le (by omega)]
    simp
  | succ d ih =>
    intro i hi
    have ha : a.drop i = a[i]'(by omega) :: a.drop (i + 1) := List.drop_eq_getElem_cons (by omega)
    have hb' : b.drop i = b[i]'(by omega) :: b.drop (i + 1) := List.drop_eq_getElem_cons (by omega)
    have e : wrap64 ((i : Int) + 1) = ((i + 1 : Nat) : Int) := by rw [w64 (by omega) (by omega)]; omega
    refine Ev.step (fun k => by rw [laws_wnInts.l0]) ?_
    refine evT (by omega) (evT (by omega) (evT (by omega) (evT (by omega) ?_)))
    rw [rd_at b i (by omega), rd_at a i (by omega), e]
    by_cases h : b[i]'(by omega) = a[i]'(by omega)
    · refine evT h (evE (ih (i + 1) (by omega)) ?_)
      rw [ha, hb']
      exact decide_eq_decide.2 ⟨fun e => by rw [h, e], fun e => (List.cons.inj e).2⟩
    · refine evF h (evE (Ev.now _) ?_)
      rw [ha, hb']
      exact (decide_eq_false (fun e => h (List.cons.inj e).1.symm)).symm
theorem wnInts_ev (a b : List Int) (hb : a.length ≤ 1000000000000) : Ev (fun k => laws_wnInts.f k a b) (decide (a = b)) := by
  simp only [laws_wnInts.f]
  by_cases h : a.length = b.length
  · exact evT (by omega) (evE (wnInts_l0 a b h hb a.length 0 (by omega)) (by simp))
  · exact evF (by omega) (evE (Ev.now _) (by simp; intro e; exact h (by rw [e])))

theorem eqIntS_l0 (a b : List Int) (hl : a.length = b.length) (hb : a.length ≤ 1000000000000) : ∀ d i : Nat, i + d = a.length →
    Ev (fun k => laws_eqIntS.l0 k a b (i : Int)) (decide (a.drop i = b.drop i)) := by
  intro d
  induction d with
  | zero =>
    intro i hi
    refine Ev.step (fun k => by rw [laws_eqIntS.l0]) ?_
    refine evF (by omega) (evE (Ev.now _) ?_)
    rw [List.drop_of_length_le (by omega), List.drop_of_length_le (by omega)]
    simp
  | succ d ih =>
    intro i hi
    have ha : a.drop i = a[i]'(by omega) :: a.drop (i + 1) := List.drop_eq_getElem_cons (by omega)
    have hb' : b.drop i = b[i]'(by omega) :: b.drop (i + 1) := List.drop_eq_getElem_cons (by omega)
    have e : wrap64 ((i : Int) + 1) = ((i + 1 : Nat) : Int) := by rw [w64 (by omega) (by omega)]; omega
    refine Ev.step (fun k => by rw [laws_eqIntS.l0]) ?_
    refine evT (by omega) (evT (by omega) (evT (by omega) ?_))
    rw [rd_at b i (by omega), rd_at a i (by omega), e]
    by_cases h : a[i]'(by omega) = b[i]'(by omega)
    · refine evT h (evE (ih (i + 1) (by omega)) ?_)
      rw [ha, hb']
      exact decide_eq_decide.2 ⟨fun e => by rw [h, e], fun e => (List.cons.inj e).2⟩
    · refine evF h (evE (Ev.now _) ?_)
      rw [ha, hb']
      exact (decide_eq_false (fun e => h (List.cons.inj e).1)).symm
theorem eqIntS_ev (a b : List Int) (hb : a.length ≤ 1000000000000) : Ev (fun k => laws_eqIntS.f k a b) (decide (a = b)) := by
  simp only [laws_eqIntS.f]
  by_cases h : a.length = b.length
  · exact evT (by omega) (evE (eqIntS_l0 a b h hb a.length 0 (by omega)) (by simp))
  · exact evF (by omega) (evE (Ev.now _) (by simp; intro e; exact h (by rw [e])))
/-- m, m + 1, .. -/
def cnt (m : Int) : Nat → List Int
  | 0 => []
  | n + 1 => m :: cnt (m + 1) n
theorem cnt_length (m : Int) (n : Nat) : (cnt m n).length = n := by
  induction n generalizing m with
  | zero => rfl
  | succ n ih => simp [cnt, ih]
theorem markIntS_l0 : ∀ (d : Nat) (pre post : List Int) (m : Int), post.length = d → 0 ≤ m → m + d ≤ 1000000000000 → pre.length + d ≤ 1000000000000 →
    Ev (fun k => laws_markIntS.l0 k (pre ++ post) m (pre.length : Int)) (m + d, pre ++ cnt m d) := by
  intro d
  induction d with
  | zero =>
    intro pre post m hp h0 h1 h2
    obtain rfl : post = [] := List.eq_nil_of_length_eq_zero hp
    refine Ev.step (fun k => by rw [laws_markIntS.l0]) ?_
    refine evF (by simp) (evE (Ev.now _) (by simp [cnt]))
  | succ d ih =>
    intro pre post m hp h0 h1 h2
    match post, hp with
    | x :: post, hp =>
      have hp' : post.length = d := by simpa using hp
      have e : wrap64 ((pre.length : Int) + 1) = (((pre ++ [m]).length : Nat) : Int) := by rw [w64 (by omega) (by omega)]; simp
      have e2 : wrap64 (m + 1) = m + 1 := w64 (by omega) (by omega)
      refine Ev.step (fun k => by rw [laws_markIntS.l0]) ?_
      refine evT (by simp; omega) (evT (by omega) ?_)
      have e3 : (pre ++ x :: post).set ((pre.length : Int) : Int).toNat m = (pre ++ [m]) ++ post := by simp
      rw [e, e2, e3]
      refine evE (ih (pre ++ [m]) post (m + 1) hp' (by omega) (by omega) (by simp; omega)) ?_
      simp [cnt]; omega
theorem markIntS_ev (l : List Int) (m : Int) (h0 : 0 ≤ m) (h1 : m + l.length ≤ 1000000000000) : Ev (fun k => laws_markIntS.f k l m) (m + l.length, cnt m l.length) := by
  simp only [laws_markIntS.f]
  exact markIntS_l0 l.length [] l m rfl h0 h1 (by simp; omega)
theorem heldIntS_l0 : ∀ (d : Nat) (pre : List Int) (m : Int), 0 ≤ m → m + d ≤ 1000000000000 → pre.length + d ≤ 1000000000000 →
    Ev (fun k => laws_heldIntS.l0 k (pre ++ cnt m d) m (pre.length : Int)) (m + d) := by
  intro d
  induction d with
  | zero =>
    intro pre m h0 h1 h2
    refine Ev.step (fun k => by rw [laws_heldIntS.l0]) ?_
    refine evF (by simp [cnt]) (evE (Ev.now _) (by simp))
  | succ d ih =>
    intro pre m h0 h1 h2
    have e : wrap64 ((pre.length : Int) + 1) = (((pre ++ [m]).length : Nat) : Int) := by rw [w64 (by omega) (by omega)]; simp
    have e2 : wrap64 (m + 1) = m + 1 := w64 (by omega) (by omega)
    have e3 : pre ++ cnt m (d + 1) = (pre ++ [m]) ++ cnt (m + 1) d := by simp [cnt]
    refine Ev.step (fun k => by rw [laws_heldIntS.l0]) ?_
    refine evT (by simp [cnt_length]; omega) (evT (by omega) (evT ?_ ?_))
    · rw [rd_at _ _ (by simp [cnt_length])]
      simp [cnt]
    · rw [e, e2, e3]
      exact evE (ih (pre ++ [m]) (m + 1) (by omega) (by omega) (by simp; omega)) (by omega)
theorem heldIntS_ev (n : Nat) (m : Int) (h0 : 0 ≤ m) (h1 : m + n ≤ 1000000000000) : Ev (fun k => laws_heldIntS.f k (cnt m n) m) (m + n) := by
  simp only [laws_heldIntS.f]
  exact heldIntS_l0 n [] m h0 h1 (by simp; omega)

theorem toIntS_l0 (l : List Int) (hl : l.length ≤ 1000000000000) : ∀ (d : Nat) (pre post : List Int), pre.length + d = l.length → post.length = d → pre = l.take pre.length →
    Ev (fun k => laws_toIntS.l0 k l (pre ++ post) (pre.length : Int)) l := by
  intro d
  induction d with
  | zero =>
    intro pre post h1 h2 h3
    obtain rfl : post = [] := List.eq_nil_of_length_eq_zero h2
    refine Ev.step (fun k => by rw [laws_toIntS.l0]) ?_
    refine evF (by omega) (evE (Ev.now _) ?_)
    rw [List.append_nil, h3, List.take_of_length_le (by omega)]
  | succ d ih =>
    intro pre post h1 h2 h3
    match post, h2 with
    | x :: post, h2 =>
      have e : wrap64 ((pre.length : Int) + 1) = (((pre ++ [l[pre.length]'(by omega)]).length : Nat) : Int) := by rw [w64 (by omega) (by omega)]; simp
      have e3 : (pre ++ x :: post).set ((pre.length : Int) : Int).toNat (l[pre.length]'(by omega)) = (pre ++ [l[pre.length]'(by omega)]) ++ post := by simp
      refine Ev.step (fun k => by rw [laws_toIntS.l0]) ?_
      refine evT (by omega) (evT (by omega) (evT (by simp; omega) ?_))
      rw [rd_at l pre.length (by omega), e, e3]
      refine ih (pre ++ [l[pre.length]'(by omega)]) post (by simp; omega) (by simpa using h2) ?_
      rw [List.length_append, List.length_singleton, List.take_succ_eq_append_getElem (by omega), ← h3]
theorem toIntS_ev (l : List Int) (hl : l.length ≤ 1000000000000) : Ev (fun k => laws_toIntS.f k l) l := by
  simp only [laws_toIntS.f]
  exact evT (by omega) (evT (by simp; omega) (toIntS_l0 l hl l.length [] _ (by simp) (by simp) rfl))

/-! ### levels of bits -/
def bit1 (x : Int) : Bool := decide (0 ≤ x ∧ x ≤ 1)
def lvTo (l : List Int) : Nat → List Int
  | 0 => []
  | i + 1 => lvTo l i ++ [l.getD i 0, 1 - l.getD i 0]
def levels (l : List Int) : List Int := if l.length ≤ 200 ∧ l.all bit1 = true then lvTo l l.length else []
theorem lvTo_length (l : List Int) (i : Nat) : (lvTo l i).length = 2 * i := by
  induction i with
  | zero => rfl
  | succ i ih => simp [lvTo, ih]; omega
theorem bit1_of {l : List Int} (h : l.all bit1 = true) {x : Int} (hx : x ∈ l) : 0 ≤ x ∧ x ≤ 1 := of_decide_eq_true (List.all_eq_true.1 h x hx)
theorem getD_mem {l : List Int} {i : Nat} (h : i < l.length) : l.getD i 0 ∈ l := by
  rw [show l.getD i 0 = l[i] by simp [List.getD_eq_getElem?_getD, h]]; exact List.getElem_mem _
theorem rdN (l : List Int) (i : Nat) : rd l (i : Int) = l.getD i 0 := by simp [rd]
theorem lvTo_bits {l : List Int} (h : l.all bit1 = true) : ∀ i : Nat, i ≤ l.length → (lvTo l i).all bit1 = true := by
  intro i
  induction i with
  | zero => intro _; rfl
  | succ i ih =>
    intro hi
    have := bit1_of h (getD_mem (l := l) (i := i) (by omega))
    simp only [lvTo, List.all_append, ih (by omega), Bool.true_and, List.all_cons, List.all_nil, Bool.and_true, bit1, Bool.and_eq_true, decide_eq_true_eq]
    omega
theorem levels_len (l : List Int) : (levels l).length ≤ 400 := by
  unfold levels
  split
  · rw [lvTo_length]; omega
  · simp
theorem levels_bits (l : List Int) : (levels l).all bit1 = true := by
  unfold levels
  split
  · rename_i h; exact lvTo_bits h.2 _ (Nat.le_refl _)
  · rfl
theorem l8Bits_l0 (l : List Int) (hl : l.length ≤ 1000000000000) : ∀ (d i : Nat), i + d = l.length → Ev (fun k => spec_l8Bits.l0 k l (i : Int)) ((l.drop i).all bit1) := by
  intro d
  induction d with
  | zero =>
    intro i hi
    refine Ev.step (fun k => by rw [spec_l8Bits.l0]) ?_
    refine evF (by omega) (evE (Ev.now _) ?_)
    rw [List.drop_of_length_le (by omega)]; rfl
  | succ d ih =>
    intro i hi
    have e : wrap64 ((i : Int) + 1) = ((i + 1 : Nat) : Int) := by rw [w64 (by omega) (by omega)]; omega
    refine Ev.step (fun k => by rw [spec_l8Bits.l0]) ?_
    refine evT (by omega) (evT (by omega) ?_)
    rw [e, rd_at l i (by omega), List.drop_eq_getElem_cons (by omega : i < l.length), List.all_cons]
    have hin : spec_l1In.f (l[i]'(by omega)) 0 1 = some (bit1 (l[i]'(by omega))) := by
      unfold spec_l1In.f bit1
      by_cases h : l[i]'(by omega) ≥ 0
      · rw [if_pos h]; simp; omega
      · rw [if_neg h]; simp; omega
    refine evS hin ?_
    cases hb : bit1 (l[i]'(by omega)) with
    | true => exact evT rfl (evE (ih (i + 1) (by omega)) (by simp))
    | false => exact evF (by simp) (Ev.now _)
theorem l8Bits_ev (l : List Int) (hl : l.length ≤ 1000000000000) : Ev (fun k => spec_l8Bits.f k l) (l.all bit1) := by
  simp only [spec_l8Bits.f]
  exact l8Bits_l0 l hl l.length 0 (by omega)
theorem specLevels_l0 (l : List Int) (hl : l.length ≤ 200) (hb : l.all bit1 = true) : ∀ (d i : Nat), i + d = l.length →
    Ev (fun k => spec_LevelsOf.l0 k l (lvTo l i) (i : Int)) (lvTo l l.length) := by
  intro d
  induction d with
  | zero =>
    intro i hi
    obtain rfl : i = l.length := by omega
    refine Ev.step (fun k => by rw [spec_LevelsOf.l0]) ?_
    exact evF (by omega) (Ev.now _)
  | succ d ih =>
    intro i hi
    have e : wrap64 ((i : Int) + 1) = ((i + 1 : Nat) : Int) := by rw [w64 (by omega) (by omega)]; omega
    have hx := bit1_of hb (getD_mem (l := l) (i := i) (by omega))
    have hlen := lvTo_length l i
    refine Ev.step (fun k => by rw [spec_LevelsOf.l0]) ?_
    rw [e, rdN, w64 (x := 1 - l.getD i 0) (by omega) (by omega)]
    exact evT (by omega) (evT (by omega) (evS rfl (evT (by simp; omega) (ih (i + 1) (by omega)))))
theorem specLevels_ev (l : List Int) (hl : l.length ≤ 1000000000000) : Ev (fun k => spec_LevelsOf.f k l) (levels l) := by
  simp only [spec_LevelsOf.f]
  refine evS rfl (Ev.bind (l8Bits_ev l hl) ?_)
  rw [w64 (x := 2 * (l.length : Int)) (by omega) (by omega)]
  unfold levels
  by_cases hb : l.all bit1 = true
  · rw [hb]
    refine evT rfl (Ev.step (fun k => by rw [spec_LevelsOf.j0]) ?_)
    by_cases h : l.length ≤ 200
    · rw [if_pos ⟨h, rfl⟩]
      exact evF (by simp; omega) (specLevels_l0 l h hb l.length 0 (by omega))
    · rw [if_neg (fun x => h x.1)]
      exact evT (by simp; omega) (Ev.now _)
  · rw [if_neg (fun x => hb x.2)]
    exact evF hb (Ev.step (fun k => by rw [spec_LevelsOf.j0]) (evT rfl (Ev.now _)))
theorem implLevels_l0 (l : List Int) (hl : l.length ≤ 200) (hb : l.all bit1 = true) : ∀ (d i : Nat), i + d = l.length →
    Ev (fun k => impl_LevelsOf.l0 k (lvTo l i) l (l.length : Int) (i : Int)) (lvTo l l.length) := by
  intro d
  induction d with
  | zero =>
    intro i hi
    obtain rfl : i = l.length := by omega
    refine Ev.step (fun k => by rw [impl_LevelsOf.l0]) ?_
    exact evF (by omega) (Ev.now _)
  | succ d ih =>
    intro i hi
    have e : wrap64 ((i : Int) + 1) = ((i + 1 : Nat) : Int) := by rw [w64 (by omega) (by omega)]; omega
    have hx := bit1_of hb (getD_mem (l := l) (i := i) (by omega))
    have hlen := lvTo_length l i
    refine Ev.step (fun k => by rw [impl_LevelsOf.l0]) ?_
    rw [e, rdN, w64 (x := 1 - l.getD i 0) (by omega) (by omega)]
    exact evT (by omega) (evT (by omega) (evT (by omega) (evS rfl (evT (by simp; omega) (ih (i + 1) (by omega))))))
theorem allBit_eq (l : List Int) : l.all (fun n => decide (n = 0 ∨ n = 1)) = l.all bit1 := by
  congr 1
  funext n
  unfold bit1
  exact decide_eq_decide.2 (by omega)
theorem implLevels_ev (l : List Int) (hl : l.length ≤ 1000000000000) : Ev (fun k => impl_LevelsOf.f k l) (levels l) := by
  simp only [impl_LevelsOf.f]
  unfold levels
  by_cases h : l.length ≤ 200
  · refine evF (by omega) (evS (show impl_all_isBit.f l = some (l.all bit1) by unfold impl_all_isBit.f; rw [allBit_eq]) ?_)
    refine Ev.step (fun k => by rw [impl_LevelsOf.j0]) ?_
    by_cases hb : l.all bit1 = true
    · rw [if_pos ⟨h, hb⟩]
      exact evF (by simp [hb]) (implLevels_l0 l h hb l.length 0 (by omega))
    · rw [if_neg (fun x => hb x.2)]
      exact evT (by simpa using hb) (Ev.now _)
  · rw [if_neg (fun x => h x.1)]
    exact evT (by omega) (Ev.step (fun k => by rw [impl_LevelsOf.j0]) (evT rfl (Ev.now _)))

/-! ### ticks and their draws -/
def wid1 (x : Int) : Bool := decide (1 ≤ x ∧ x ≤ 40)
/-- the width of the level of place i -/
def wd (ws : List Int) (i : Nat) : Int := ws.getD (min i (ws.length - 1)) 0
def tkTo (l ws : List Int) : Nat → List Int
  | 0 => []
  | i + 1 => tkTo l ws i ++ List.replicate (wd ws i).toNat (l.getD i 0)
def tkOk (l ws : List Int) : Prop := l.all bit1 = true ∧ l.length ≤ 400 ∧ ws ≠ [] ∧ ws.all wid1 = true
instance (l ws : List Int) : Decidable (tkOk l ws) := by unfold tkOk; exact inferInstance
def ticks (l ws : List Int) : List Int := if tkOk l ws then tkTo l ws l.length else []
theorem wid1_of {l : List Int} (h : l.all wid1 = true) {x : Int} (hx : x ∈ l) : 1 ≤ x ∧ x ≤ 40 := of_decide_eq_true (List.all_eq_true.1 h x hx)
theorem wd_mem {ws : List Int} (h : ws ≠ []) (i : Nat) : wd ws i ∈ ws := by
  have := List.length_pos_iff.2 h
  exact getD_mem (by omega)
theorem tkTo_len {l ws : List Int} (hw : ws ≠ []) (h : ws.all wid1 = true) : ∀ i : Nat, i ≤ (tkTo l ws i).length ∧ (tkTo l ws i).length ≤ 40 * i := by
  intro i
  induction i with
  | zero => simp [tkTo]
  | succ i ih =>
    have := wid1_of h (wd_mem hw i)
    simp only [tkTo, List.length_append, List.length_replicate]
    omega
theorem ticks_len (l ws : List Int) : (ticks l ws).length ≤ 16000 := by
  unfold ticks
  split
  · rename_i h
    have := (tkTo_len (l := l) h.2.2.1 h.2.2.2 l.length).2
    have := h.2.1
    omega
  · simp
theorem specTicks_l2 (l ws : List Int) (i : Nat) (hi : i < l.length) (n : Nat) (hn : n ≤ 40) {r : List Int} :
    ∀ (d m : Nat) (acc : List Int), m + d = n → acc.length + d ≤ 1000000 →
    Ev (fun k => spec_TicksOf.l1 k l ws (acc ++ List.replicate d (l.getD i 0)) (wrap64 ((i : Int) + 1))) r →
    Ev (fun k => spec_TicksOf.l2 k l ws acc (i : Int) (n : Int) (m : Int)) r := by
  intro d
  induction d with
  | zero =>
    intro m acc hm ha h
    refine Ev.step (fun k => by rw [spec_TicksOf.l2]) ?_
    refine evF (by omega) ?_
    simpa using h
  | succ d ih =>
    intro m acc hm ha h
    have e : wrap64 ((m : Int) + 1) = ((m + 1 : Nat) : Int) := by rw [w64 (by omega) (by omega)]; omega
    refine Ev.step (fun k => by rw [spec_TicksOf.l2]) ?_
    refine evT (by omega) (evT (by omega) (evT (by omega) (evT (by omega) ?_)))
    rw [e, rdN]
    exact ih (m + 1) (acc ++ [l.getD i 0]) (by omega) (by simp; omega) (by simpa [List.replicate_succ] using h)
theorem specTicks_l1 (l ws : List Int) (hl : l.length ≤ 400) (hw : ws ≠ []) (hwl : ws.length ≤ 1000000000000) (hb : ws.all wid1 = true) : ∀ (d i : Nat), i + d = l.length →
    Ev (fun k => spec_TicksOf.l1 k l ws (tkTo l ws i) (i : Int)) (tkTo l ws l.length) := by
  intro d
  induction d with
  | zero =>
    intro i hi
    obtain rfl : i = l.length := by omega
    refine Ev.step (fun k => by rw [spec_TicksOf.l1]) ?_
    exact evF (by omega) (Ev.now _)
  | succ d ih =>
    intro i hi
    have hp := List.length_pos_iff.2 hw
    have e : wrap64 ((i : Int) + 1) = ((i + 1 : Nat) : Int) := by rw [w64 (by omega) (by omega)]; omega
    have em : mn (i : Int) (wrap64 ((ws.length : Int) - 1)) = ((min i (ws.length - 1) : Nat) : Int) := by
      rw [w64 (by omega) (by omega)]; unfold mn; split <;> omega
    have hb1 := wid1_of hb (wd_mem hw i)
    have hlen := tkTo_len (l := l) hw hb i
    refine Ev.step (fun k => by rw [spec_TicksOf.l1]) ?_
    rw [em]
    refine evT (by omega) (evT (by omega) (evT (by omega) ?_))
    rw [rdN]
    have e2 : ws.getD (min i (ws.length - 1)) 0 = (((wd ws i).toNat : Nat) : Int) := by unfold wd at hb1 ⊢; omega
    rw [e2]
    refine specTicks_l2 l ws i (by omega) (wd ws i).toNat (by omega) (wd ws i).toNat 0 _ (by omega) (by omega) ?_
    rw [e]
    exact ih (i + 1) (by omega)
theorem specTicks_l0 (l ws : List Int) (hwl : ws.length ≤ 1000000000000) (r : List Int) (hr : ws.all wid1 = true → Ev (fun k => spec_TicksOf.l1 k l ws [] 0) r) (hr2 : ¬ ws.all wid1 = true → r = []) : ∀ (d i : Nat), i + d = ws.length → (ws.take i).all wid1 = true →
    Ev (fun k => spec_TicksOf.l0 k l ws [] (i : Int)) r := by
  intro d
  induction d with
  | zero =>
    intro i hi ha
    rw [List.take_of_length_le (by omega)] at ha
    refine Ev.step (fun k => by rw [spec_TicksOf.l0]) ?_
    exact evF (by omega) (hr ha)
  | succ d ih =>
    intro i hi ha
    have e : wrap64 ((i : Int) + 1) = ((i + 1 : Nat) : Int) := by rw [w64 (by omega) (by omega)]; omega
    refine Ev.step (fun k => by rw [spec_TicksOf.l0]) ?_
    refine evT (by omega) (evT (by omega) ?_)
    rw [e, rd_at ws i (by omega)]
    have hin : spec_l1In.f (ws[i]'(by omega)) 1 40 = some (wid1 (ws[i]'(by omega))) := by
      unfold spec_l1In.f wid1
      by_cases h : ws[i]'(by omega) ≥ 1
      · rw [if_pos h]; simp; omega
      · rw [if_neg h]; simp; omega
    refine evS hin ?_
    by_cases hb : wid1 (ws[i]'(by omega)) = true
    · refine evT hb (ih (i + 1) (by omega) ?_)
      rw [List.take_succ_eq_append_getElem (by omega), List.all_append, ha]
      simp [hb]
    · refine evF hb (evE (Ev.now _) (hr2 ?_).symm)
      intro h
      exact hb (List.all_eq_true.1 h _ (List.getElem_mem _))
theorem specTicks_ev (l ws : List Int) (hl : l.length ≤ 1000000000000) (hwl : ws.length ≤ 1000000000000) : Ev (fun k => spec_TicksOf.f k l ws) (ticks l ws) := by
  simp only [spec_TicksOf.f]
  refine evS rfl (Ev.bind (l8Bits_ev l hl) ?_)
  unfold ticks
  by_cases hb : l.all bit1 = true
  · refine evT hb ?_
    by_cases h : l.length ≤ 400
    · refine evF (by omega) (Ev.step (fun k => by rw [spec_TicksOf.j0]) ?_)
      by_cases hw : ws = []
      · subst hw
        rw [if_neg (fun x => x.2.2.1 rfl)]
        exact evT (by simp) (Ev.now _)
      · have hp := List.length_pos_iff.2 hw
        refine evF (by simp; exact hw) ?_
        refine specTicks_l0 l ws hwl _ (fun ha => ?_) (fun ha => ?_) ws.length 0 (by omega) (by simp)
        · rw [if_pos ⟨hb, h, hw, ha⟩]
          exact specTicks_l1 l ws h hw hwl ha l.length 0 (by omega)
        · rw [if_neg (fun x => ha x.2.2.2)]
    · rw [if_neg (fun x => h x.2.1)]
      exact evT (by omega) (Ev.step (fun k => by rw [spec_TicksOf.j0]) (evT rfl (Ev.now _)))
  · rw [if_neg (fun x => hb x.1)]
    exact evF hb (Ev.step (fun k => by rw [spec_TicksOf.j0]) (evT rfl (Ev.now _)))

/-! ### ticks as the program makes them -/
theorem repeat_eq (v a : Int) (h1 : 1 ≤ a) (h2 : a ≤ 1000) : slices_Repeat_int_int.f ([v] : List Int) a = some (List.replicate a.toNat v) := by
  unfold slices_Repeat_int_int.f
  rw [if_pos ⟨rfl, h1, h2⟩]
  rfl
theorem implTicks_l0 (l ws : List Int) (hl : l.length ≤ 400) (hw : ws ≠ []) (hwl : ws.length ≤ 1000000000000) (hb : ws.all wid1 = true) : ∀ (d i : Nat), i + d = l.length →
    Ev (fun k => impl_TicksOf.l0 k ws (tkTo l ws i) l (l.length : Int) (i : Int)) (tkTo l ws l.length) := by
  intro d
  induction d with
  | zero =>
    intro i hi
    obtain rfl : i = l.length := by omega
    refine Ev.step (fun k => by rw [impl_TicksOf.l0]) ?_
    exact evF (by omega) (Ev.now _)
  | succ d ih =>
    intro i hi
    have hp := List.length_pos_iff.2 hw
    have e : wrap64 ((i : Int) + 1) = ((i + 1 : Nat) : Int) := by rw [w64 (by omega) (by omega)]; omega
    have em : mn (i : Int) (wrap64 ((ws.length : Int) - 1)) = ((min i (ws.length - 1) : Nat) : Int) := by
      rw [w64 (by omega) (by omega)]; unfold mn; split <;> omega
    have hb1 := wid1_of hb (wd_mem hw i)
    have hlen := tkTo_len (l := l) hw hb i
    refine Ev.step (fun k => by rw [impl_TicksOf.l0]) ?_
    rw [em, e, rdN, rdN]
    refine evT (by omega) (evT (by omega) (evT (by omega) (evT (by omega) (evT (by omega) ?_))))
    refine evS (repeat_eq (l.getD i 0) (ws.getD (min i (ws.length - 1)) 0) (by unfold wd at hb1; omega) (by unfold wd at hb1; omega)) ?_
    refine evT (by rw [List.length_replicate]; unfold wd at hb1; omega) ?_
    exact ih (i + 1) (by omega)
theorem allWid_eq (l : List Int) : l.all (fun n => decide (1 ≤ n ∧ n ≤ 40)) = l.all wid1 := rfl
theorem implTicks_ev (l ws : List Int) (hl : l.length ≤ 1000000000000) (hwl : ws.length ≤ 1000000000000) : Ev (fun k => impl_TicksOf.f k l ws) (ticks l ws) := by
  simp only [impl_TicksOf.f]
  unfold ticks
  have out : ∀ (h : ¬ tkOk l ws), Ev (fun k => impl_TicksOf.j0 k l ws true) (if tkOk l ws then tkTo l ws l.length else []) := fun h => by
    rw [if_neg h]
    exact Ev.step (fun k => by rw [impl_TicksOf.j0]) (evT rfl (Ev.now _))
  by_cases h : l.length ≤ 400
  · refine evF (by omega) (evS (show impl_all_isBit.f l = some (l.all bit1) by unfold impl_all_isBit.f; rw [allBit_eq]) ?_)
    by_cases hb : l.all bit1 = true
    · refine evT hb ?_
      by_cases hw : ws = []
      · subst hw
        exact evT rfl (out (fun x => x.2.2.1 rfl))
      · have hp := List.length_pos_iff.2 hw
        refine evF (by omega) (evS (show impl_all_isWidth.f ws = some (ws.all wid1) from rfl) ?_)
        by_cases ha : ws.all wid1 = true
        · rw [ha, if_pos ⟨hb, h, hw, ha⟩]
          refine Ev.step (fun k => by rw [impl_TicksOf.j0]) ?_
          exact evF (by simp) (implTicks_l0 l ws h hw hwl ha l.length 0 (by omega))
        · have ha' : ws.all wid1 = false := by simpa using ha
          rw [ha']
          exact out (fun x => ha x.2.2.2)
    · exact evF hb (out (fun x => hb x.1))
  · exact evT (by omega) (out (fun x => h x.2.1))

end Go.Proofs.Ytegkgandlpiobaa.Q
