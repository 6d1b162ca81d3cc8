/- Plain lemmas on what the printed functions compute (seat Ytegkgandlpiobaa, module QClockDrift). Conditions: each lemma's own. -/
import Derived.Test.YtegkgandlpiobaaQf
import Derived.Test.YtegkgandlpiobaaPA0
import Derived.Test.YtegkgandlpiobaaPA11
import Derived.Test.YtegkgandlpiobaaPA12
import Derived.Test.YtegkgandlpiobaaPA25
import Derived.Test.YtegkgandlpiobaaPA27
import Derived.Test.YtegkgandlpiobaaPA30
import Derived.Test.YtegkgandlpiobaaPA9
set_option linter.unusedVariables false
set_option linter.unusedSimpArgs false
namespace Go.Proofs.Ytegkgandlpiobaa.Q
open Go Go.RowKit Go.Proofs.Ytegkgandlpiobaa.PA Go.Proofs.YtegkgandlpiobaaW.PrintWords Go.Proofs.YtegkgandlpiobaaW.PrintLast

/-! ### bits out of levels -/
def bsT (l : List Int) (k : Nat) : List Int := (List.range k).map fun i => l.getD (2 * i) 0
def okT (l : List Int) (k : Nat) : Prop := ∀ i, i < k → l.getD (2 * i) 0 ≠ l.getD (2 * i + 1) 0
instance (l : List Int) (k : Nat) : Decidable (okT l k) := by unfold okT; exact inferInstance
theorem bsT_succ (l : List Int) (k : Nat) : bsT l (k + 1) = bsT l k ++ [l.getD (2 * k) 0] := by simp [bsT, List.range_succ]
theorem bsT_length (l : List Int) (k : Nat) : (bsT l k).length = k := by simp [bsT]
def bitsOf (l : List Int) : List Int × Bool := if (l.length % 2 = 0 ∧ l.length ≤ 400 ∧ l.all bit1 = true) ∧ okT l (l.length / 2) then (bsT l (l.length / 2), true) else ([], false)
theorem bits_upto (l : List Int) (m : Nat) : ∀ k, k ≤ m → HB.bsOf l (HB.uptoI m k) = bsT l k ∧ ((HB.uptoI m k).all (fun x => decide (l.getD (2 * x.1) 0 ≠ l.getD (2 * x.1 + 1) 0)) = true ↔ okT l k) := by
  intro k
  induction k with
  | zero => intro _; exact ⟨rfl, by simp [HB.uptoI, okT]⟩
  | succ k ih =>
    intro hk
    obtain ⟨h1, h2⟩ := ih (by omega)
    rw [HB.uptoI_succ m k (by omega)]
    refine ⟨?_, ?_⟩
    · rw [bsT_succ, ← h1]
      simp [HB.bsOf]
    · rw [List.all_append, Bool.and_eq_true, h2]
      simp only [List.all_cons, List.all_nil, Bool.and_true, decide_eq_true_eq]
      constructor
      · rintro ⟨a, b⟩ i hi
        by_cases e : i = k
        · rw [e]; exact b
        · exact a i (by omega)
      · intro h
        exact ⟨fun i hi => h i (by omega), h k (by omega)⟩
theorem implBits_eq (l : List Int) : impl_BitsFrom.f l = some (bitsOf l) := by
  unfold impl_BitsFrom.f bitsOf
  rw [allBit_eq]
  obtain ⟨h1, h2⟩ := bits_upto l (l.length / 2) (l.length / 2) (Nat.le_refl _)
  by_cases c : l.length % 2 = 0 ∧ l.length ≤ 400 ∧ l.all bit1 = true
  · rw [if_pos c]
    unfold HB.bf
    by_cases d : okT l (l.length / 2)
    · rw [if_pos (h2.2 d), if_pos ⟨c, d⟩, h1]
    · rw [if_neg (fun x => d (h2.1 x)), if_neg (fun x => d x.2)]
  · rw [if_neg c, if_neg (fun x => c x.1)]
theorem bits_len (l : List Int) : (bitsOf l).1.length ≤ 200 := by
  unfold bitsOf
  split
  · rename_i h; show (bsT l (l.length / 2)).length ≤ 200; rw [bsT_length]; omega
  · simp
theorem specBits_l0 (l : List Int) (m : Nat) (hl : l.length = 2 * m) (hm : l.length ≤ 400) : ∀ (d i : Nat), i + d = m → okT l i →
    Ev (fun k => spec_BitsFrom.l0 k l (bsT l i) ((2 * i : Nat) : Int)) (if okT l m then (bsT l m, true) else ([], false)) := by
  intro d
  induction d with
  | zero =>
    intro i hi ho
    obtain rfl : i = m := by omega
    refine Ev.step (fun k => by rw [spec_BitsFrom.l0]) ?_
    exact evF (by omega) (evE (Ev.now _) (by rw [if_pos ho]))
  | succ d ih =>
    intro i hi ho
    have e1 : wrap64 (((2 * i : Nat) : Int) + 1) = ((2 * i + 1 : Nat) : Int) := by rw [w64 (by omega) (by omega)]; omega
    have e2 : wrap64 (((2 * i : Nat) : Int) + 2) = ((2 * (i + 1) : Nat) : Int) := by rw [w64 (by omega) (by omega)]; omega
    have hbl := bsT_length l i
    refine Ev.step (fun k => by rw [spec_BitsFrom.l0]) ?_
    rw [e1, e2, rdN, rdN]
    refine evT (by omega) (evT (by omega) (evT (by omega) (evT (by omega) ?_)))
    by_cases c : l.getD (2 * i) 0 = l.getD (2 * i + 1) 0
    · refine evT c (evE (Ev.now _) ?_)
      rw [if_neg (fun h => h i (by omega) c)]
    · refine evF c (evT (by omega) ?_)
      rw [← bsT_succ]
      exact ih (i + 1) (by omega) (fun j hj => by
        by_cases e : j = i
        · rw [e]; exact c
        · exact ho j (by omega))
theorem specBits_ev (l : List Int) (hl : l.length ≤ 1000000000000) : Ev (fun k => spec_BitsFrom.f k l) (bitsOf l) := by
  have out : ¬ (l.length % 2 = 0 ∧ l.length ≤ 400 ∧ l.all bit1 = true) → Ev (fun k => spec_BitsFrom.j0 k l [] true) (bitsOf l) := fun c => by
    refine Ev.step (fun k => by rw [spec_BitsFrom.j0]) ?_
    refine evT rfl (evE (Ev.now _) ?_)
    unfold bitsOf
    rw [if_neg (fun x => c x.1)]
  simp only [spec_BitsFrom.f]
  refine evS rfl (Ev.bind (l8Bits_ev l hl) ?_)
  by_cases c1 : l.all bit1 = true
  · refine evT c1 ?_
    by_cases c2 : l.length % 2 = 0
    · refine evT (by omega) ?_
      by_cases c3 : l.length ≤ 400
      · rw [show decide ((l.length : Int) > 400) = false from decide_eq_false (by omega)]
        refine Ev.step (fun k => by rw [spec_BitsFrom.j0]) ?_
        refine evF (by simp) ?_
        have := specBits_l0 l (l.length / 2) (by omega) c3 (l.length / 2) 0 (by omega) (fun i hi => by omega)
        refine evE this ?_
        unfold bitsOf
        by_cases d : okT l (l.length / 2)
        · rw [if_pos d, if_pos ⟨⟨c2, c3, c1⟩, d⟩]
        · rw [if_neg d, if_neg (fun x => d x.2)]
      · rw [show decide ((l.length : Int) > 400) = true from decide_eq_true (by omega)]
        exact out (fun x => c3 x.2.1)
    · exact evF (by omega) (out (fun x => c2 x.1))
  · exact evF c1 (out (fun x => c1 x.2.2))
/-- what levels hold -/
theorem lvTo_at (l : List Int) : ∀ (n i : Nat), i < n → (lvTo l n).getD (2 * i) 0 = l.getD i 0 ∧ (lvTo l n).getD (2 * i + 1) 0 = 1 - l.getD i 0 := by
  intro n
  induction n with
  | zero => intro i h; omega
  | succ n ih =>
    intro i hi
    have hl := lvTo_length l n
    by_cases e : i = n
    · subst e
      simp only [lvTo, List.getD_eq_getElem?_getD]
      rw [List.getElem?_append_right (by omega), List.getElem?_append_right (by omega), hl]
      simp
    · obtain ⟨h1, h2⟩ := ih i (by omega)
      simp only [List.getD_eq_getElem?_getD] at h1 h2
      simp only [lvTo, List.getD_eq_getElem?_getD]
      rw [List.getElem?_append_left (by omega), List.getElem?_append_left (by omega)]
      exact ⟨h1, h2⟩
theorem bits_back {l : List Int} (h1 : l.length ≤ 200) (h2 : l.all bit1 = true) : bitsOf (lvTo l l.length) = (l, true) := by
  have hl := lvTo_length l l.length
  have hb := lvTo_bits h2 l.length (Nat.le_refl _)
  have hat := lvTo_at l l.length
  unfold bitsOf
  have e : (lvTo l l.length).length / 2 = l.length := by omega
  rw [e, if_pos ⟨⟨by omega, by omega, hb⟩, fun i hi => by
    obtain ⟨a, b⟩ := hat i hi
    rw [a, b]; omega⟩]
  congr 1
  apply List.ext_getElem (by rw [bsT_length])
  intro i h3 h4
  have := (hat i h4).1
  simp only [bsT, List.getElem_map, List.getElem_range]
  rw [this, List.getD_eq_getElem?_getD, List.getElem?_eq_getElem h4]
  rfl
theorem bits_levels {l b : List Int} (h : bitsOf l = (b, true)) : levels b = l := by
  unfold bitsOf at h
  split at h
  · rename_i c
    obtain ⟨⟨c1, c2, c3⟩, c4⟩ := c
    obtain ⟨rfl, _⟩ := Prod.mk.inj h
    have hbl := bsT_length l (l.length / 2)
    have hm : ∀ i, i < l.length / 2 → (0 ≤ l.getD (2 * i) 0 ∧ l.getD (2 * i) 0 ≤ 1) ∧ (0 ≤ l.getD (2 * i + 1) 0 ∧ l.getD (2 * i + 1) 0 ≤ 1) := fun i hi =>
      ⟨bit1_of c3 (getD_mem (by omega)), bit1_of c3 (getD_mem (by omega))⟩
    have hbit : (bsT l (l.length / 2)).all bit1 = true := by
      rw [List.all_eq_true]
      intro x hx
      obtain ⟨i, hi, rfl⟩ := List.mem_map.1 hx
      exact decide_eq_true (hm i (List.mem_range.1 hi)).1
    unfold levels
    rw [if_pos ⟨by omega, hbit⟩]
    have hat := lvTo_at (bsT l (l.length / 2)) (bsT l (l.length / 2)).length
    have hlen := lvTo_length (bsT l (l.length / 2)) (bsT l (l.length / 2)).length
    apply List.ext_getElem (by omega)
    intro j h3 h4
    have hx : (bsT l (l.length / 2)).getD (j / 2) 0 = l.getD (2 * (j / 2)) 0 := by
      rw [List.getD_eq_getElem?_getD, List.getElem?_eq_getElem (by omega)]
      simp [bsT]
    obtain ⟨a1, a2⟩ := hat (j / 2) (by omega)
    obtain ⟨m1, m2⟩ := hm (j / 2) (by omega)
    have hne := c4 (j / 2) (by omega)
    rw [hx] at a1 a2
    have g1 : ∀ (xs : List Int) (q : Nat) (hq : q < xs.length), xs[q] = xs.getD q 0 := fun xs q hq => by simp [List.getD_eq_getElem?_getD, hq]
    rw [g1 _ j h3, g1 _ j h4]
    by_cases e : j % 2 = 0
    · have : j = 2 * (j / 2) := by omega
      rw [this]; exact a1
    · have : j = 2 * (j / 2) + 1 := by omega
      rw [this]
      have e2 : (2 * (j / 2) + 1) / 2 = j / 2 := by omega
      rw [a2]; omega
  · simp at h
theorem bits_no {l b : List Int} (h : bitsOf l = (b, false)) : b = [] := by
  unfold bitsOf at h
  split at h
  · simp at h
  · exact (Prod.mk.inj h).1.symm

/-! ### lines that are read -/
def readLine (l : List Int) (w : Int) : List Int × Bool := if (levelsFrom l w).2 = true then bitsOf (levelsFrom l w).1 else ([], false)
theorem readLine_len (l : List Int) (w : Int) : (readLine l w).1.length ≤ 200 := by
  unfold readLine
  split
  · exact bits_len _
  · simp
theorem implRead_ev (l : List Int) (hl : l.length ≤ 1000000000000) (w : Int) : Ev (fun k => impl_ReadLine.f k l w) (readLine l w) := by
  simp only [impl_ReadLine.f]
  refine Ev.bind (implFrom_ev l hl w) ?_
  by_cases c : (levelsFrom l w).2 = true
  · have e : readLine l w = bitsOf (levelsFrom l w).1 := if_pos c
    rw [e]
    exact evT c (evS (implBits_eq _) (Ev.now _))
  · have e : readLine l w = ([], false) := if_neg c
    rw [e]
    exact evF c (Ev.now _)
theorem specRead_ev (l : List Int) (hl : l.length ≤ 1000000000000) (w : Int) : Ev (fun k => spec_ReadLine.f k l w) (readLine l w) := by
  have hs := levelsFrom_len l w
  simp only [spec_ReadLine.f]
  refine Ev.bind (specFrom_ev l hl w) ?_
  by_cases c : (levelsFrom l w).2 = true
  · have e : readLine l w = bitsOf (levelsFrom l w).1 := if_pos c
    rw [e]
    exact evT c (Ev.bind (specBits_ev _ (by omega)) (Ev.now _))
  · have e : readLine l w = ([], false) := if_neg c
    rw [e]
    exact evF c (Ev.now _)

/-! ### levels that last a quarter more or less -/
theorem tkT_succ (l ws : List Int) (i : Nat) : (tkTo l ws (i + 1)).length = (tkTo l ws i).length + (wd ws i).toNat := by simp [tkTo]
theorem tkT_mono (l ws : List Int) {i j : Nat} (h : i ≤ j) : (tkTo l ws i).length ≤ (tkTo l ws j).length := by
  induction j with
  | zero => obtain rfl : i = 0 := by omega
            exact Nat.le_refl _
  | succ j ih =>
    by_cases e : i = j + 1
    · rw [e]; exact Nat.le_refl _
    · have := ih (by omega)
      rw [tkT_succ]; omega
theorem tk_at (l ws : List Int) : ∀ (n i j : Nat), i < n → j < (wd ws i).toNat → (tkTo l ws n).getD ((tkTo l ws i).length + j) 0 = l.getD i 0 := by
  intro n
  induction n with
  | zero => intro i j h; omega
  | succ n ih =>
    intro i j hi hj
    have e : tkTo l ws (n + 1) = tkTo l ws n ++ List.replicate (wd ws n).toNat (l.getD n 0) := rfl
    rw [e, List.getD_eq_getElem?_getD]
    by_cases h : i = n
    · subst h
      rw [List.getElem?_append_right (by omega), List.getElem?_replicate, if_pos (by omega)]
      rfl
    · have h1 := tkT_mono l ws (show i + 1 ≤ n by omega)
      rw [tkT_succ] at h1
      rw [List.getElem?_append_left (by omega), ← List.getD_eq_getElem?_getD]
      exact ih i j (by omega) hj
theorem drift_runs {l ws : List Int} {W : Int} (hw : ∀ i, 1 ≤ wd ws i ∧ 3 * W ≤ 4 * wd ws i ∧ 4 * wd ws i < 5 * W) (hev : l.length % 2 = 0) (hok : okT l (l.length / 2)) :
    ∀ (rs : List Int) (s : Nat), IsRuns l s rs l.length → ∃ ns, IsRuns (tkTo l ws l.length) (tkTo l ws s).length ns (tkTo l ws l.length).length ∧
      ∀ acc, lfTo (tkTo l ws l.length) W acc (tkTo l ws s).length ns = some (acc ++ l.drop s) := by
  intro rs
  induction rs with
  | nil =>
    intro s h
    obtain rfl : s = l.length := h
    exact ⟨[], rfl, fun acc => by simp [lfTo]⟩
  | cons n rs ih =>
    intro s h
    obtain ⟨h1, h2, h3, h4⟩ := h
    have hle := h4.le
    have hn2 : n.toNat ≤ 2 := by
      rcases Nat.lt_or_ge 2 n.toNat with h5 | h5
      · exfalso
        have a := h2 (2 * ((s + 1) / 2) - s) (by omega)
        have b := h2 (2 * ((s + 1) / 2) + 1 - s) (by omega)
        rw [show s + (2 * ((s + 1) / 2) - s) = 2 * ((s + 1) / 2) by omega] at a
        rw [show s + (2 * ((s + 1) / 2) + 1 - s) = 2 * ((s + 1) / 2) + 1 by omega] at b
        exact hok ((s + 1) / 2) (by omega) (a.trans b.symm)
      · exact h5
    obtain ⟨ns, k1, k2⟩ := ih (s + n.toNat) h4
    have w0 := hw s
    have w1 := hw (s + 1)
    have t0 := tkT_succ l ws s
    have t1 : (tkTo l ws (s + 2)).length = (tkTo l ws (s + 1)).length + (wd ws (s + 1)).toNat := tkT_succ l ws (s + 1)
    have hsl : s < l.length := by omega
    have at0 : ∀ j, j < (wd ws s).toNat → (tkTo l ws l.length).getD ((tkTo l ws s).length + j) 0 = l.getD s 0 := fun j hj => tk_at l ws l.length s j hsl hj
    have hz : (tkTo l ws l.length).getD (tkTo l ws s).length 0 = l.getD s 0 := at0 0 (by omega)
    have hlast : 0 < (tkTo l ws s).length → (tkTo l ws l.length).getD ((tkTo l ws s).length - 1) 0 ≠ (tkTo l ws l.length).getD (tkTo l ws s).length 0 := by
      intro hpos
      rw [hz]
      obtain ⟨s', rfl⟩ : ∃ s', s = s' + 1 := by
        cases s with
        | zero => simp [tkTo] at hpos
        | succ s' => exact ⟨s', rfl⟩
      have w2 := hw s'
      have t2 := tkT_succ l ws s'
      have := tk_at l ws l.length s' ((wd ws s').toNat - 1) (by omega) (by omega)
      rw [show (tkTo l ws s').length + ((wd ws s').toNat - 1) = (tkTo l ws (s' + 1)).length - 1 by omega] at this
      rw [this]
      have := h3 (by omega)
      rwa [show s' + 1 - 1 = s' by omega] at this
    have hm : n.toNat = 1 ∨ n.toNat = 2 := by omega
    rcases hm with hm | hm
    · rw [hm] at k1 k2
      refine ⟨wd ws s :: ns, ⟨w0.1, fun j hj => by rw [at0 j hj, hz], hlast, by rw [← t0]; exact k1⟩, fun acc => ?_⟩
      have hc : ¬ (2 * wd ws s < W ∨ 2 * wd ws s ≥ 5 * W) := by omega
      have hmy : many W (wd ws s) = 1 := by unfold many; rw [if_neg (by omega)]
      rw [lfTo, if_neg hc, hmy, hz, ← t0, k2]
      rw [List.append_assoc, List.drop_eq_getElem_cons hsl, getD_at l s hsl]
      rfl
    · rw [hm] at k1 k2
      have hs1 : s + 1 < l.length := by omega
      have e1 : l.getD (s + 1) 0 = l.getD s 0 := h2 1 (by omega)
      have at1 : ∀ j, j < (wd ws (s + 1)).toNat → (tkTo l ws l.length).getD ((tkTo l ws (s + 1)).length + j) 0 = l.getD s 0 := fun j hj => by rw [tk_at l ws l.length (s + 1) j hs1 hj, e1]
      refine ⟨(wd ws s + wd ws (s + 1)) :: ns, ⟨by omega, fun j hj => ?_, hlast, ?_⟩, fun acc => ?_⟩
      · rw [hz]
        by_cases c : j < (wd ws s).toNat
        · exact at0 j c
        · have := at1 (j - (wd ws s).toNat) (by omega)
          rwa [show (tkTo l ws (s + 1)).length + (j - (wd ws s).toNat) = (tkTo l ws s).length + j by omega] at this
      · rw [show (tkTo l ws s).length + (wd ws s + wd ws (s + 1)).toNat = (tkTo l ws (s + 2)).length by omega]
        exact k1
      · have hc : ¬ (2 * (wd ws s + wd ws (s + 1)) < W ∨ 2 * (wd ws s + wd ws (s + 1)) ≥ 5 * W) := by omega
        have hmy : many W (wd ws s + wd ws (s + 1)) = 2 := by unfold many; rw [if_pos (by omega)]
        rw [lfTo, if_neg hc, hmy, hz, show (tkTo l ws s).length + (wd ws s + wd ws (s + 1)).toNat = (tkTo l ws (s + 2)).length by omega, k2]
        rw [List.append_assoc, List.drop_eq_getElem_cons hsl, List.drop_eq_getElem_cons hs1]
        rw [getD_at l s hsl] at e1 ⊢
        rw [getD_at l (s + 1) hs1] at e1
        rw [e1]
        rfl
theorem tk_bits {l ws : List Int} (h : l.all bit1 = true) : ∀ i : Nat, i ≤ l.length → (tkTo l ws i).all bit1 = true := by
  intro i
  induction i with
  | zero => intro _; rfl
  | succ i ih =>
    intro hi
    simp only [tkTo, List.all_append, ih (by omega), Bool.true_and]
    rw [List.all_eq_true]
    intro x hx
    rw [(List.mem_replicate.1 hx).2]
    exact List.all_eq_true.1 h _ (getD_mem (by omega))
theorem drift {l ws b : List Int} {W : Int} (htk : tkOk l ws) (hb : bitsOf l = (b, true)) (hW : 1 ≤ W ∧ W ≤ 40) (hnear : ∀ x ∈ ws, 3 * W ≤ 4 * x ∧ 4 * x < 5 * W) : readLine (ticks l ws) W = (b, true) := by
  have ht : ticks l ws = tkTo l ws l.length := by unfold ticks; rw [if_pos htk]
  have hlen := ticks_len l ws
  have hc : (l.length % 2 = 0 ∧ l.length ≤ 400 ∧ l.all bit1 = true) ∧ okT l (l.length / 2) := by
    rcases Classical.em ((l.length % 2 = 0 ∧ l.length ≤ 400 ∧ l.all bit1 = true) ∧ okT l (l.length / 2)) with h | h
    · exact h
    · exfalso
      unfold bitsOf at hb
      rw [if_neg h] at hb
      simp at hb
  have hw : ∀ i, 1 ≤ wd ws i ∧ 3 * W ≤ 4 * wd ws i ∧ 4 * wd ws i < 5 * W := fun i => by
    have hm := wd_mem htk.2.2.1 i
    have h1 := wid1_of htk.2.2.2 hm
    have h2 := hnear _ hm
    omega
  obtain ⟨ns, k1, k2⟩ := drift_runs hw hc.1.1 hc.2 (runs l) 0 (runs_is l)
  have hr : runs (tkTo l ws l.length) = ns := runs_unique (runs_is _) k1
  have hlf : levelsFrom (ticks l ws) W = (l, true) := by
    unfold levelsFrom
    rw [ht] at hlen ⊢
    rw [if_pos ⟨tk_bits hc.1.2.2 _ (Nat.le_refl _), hW.1, hW.2, hlen⟩, hr]
    have := k2 []
    rw [show (tkTo l ws 0).length = 0 from rfl] at this
    rw [this]
    unfold lfEnd
    rw [List.nil_append, List.drop_zero]
    dsimp only
    rw [if_neg (by omega)]
  unfold readLine
  rw [hlf]
  exact hb

theorem drawTicks_ev (l : List Int) (hb : ∀ x ∈ l, (Lit.int .u8 x).wf = true) : ∃ ls ws, Ev (fun k => spec_DrawTicksOf.f k l) (ls, ws) ∧ ls.length ≤ 400 ∧ ws.length ≤ 30 := by
  obtain ⟨b, ho, hl⟩ := open_ev l hb
  obtain ⟨xs, q, hd, k1, k2, k3, k4⟩ := l8Draw_ev b hl 0 (by omega) (by omega)
  obtain ⟨w, hw, hm⟩ := num_ev b hl q ([8, 4, 1, 20, 3] : List Int) (by omega) (by omega) (by simp) (by simp)
  have hwb : 1 ≤ w ∧ w ≤ 20 := by simp at hm; omega
  obtain ⟨ws, q2, hw2, j1, j2, j3, j4⟩ := l8Widths_ev b hl (q + 1) w (by omega) (by omega) (by omega)
  have hlv := levels_len xs
  obtain ⟨v, hv, v0, v1⟩ := pick_ev b hl q2 30 (by omega) (by omega) (by omega)
  obtain ⟨u, hu, hum⟩ := num_ev b hl (q2 + 1) ([0, 41] : List Int) (by omega) (by omega) (by simp) (by simp)
  have pre : ∀ {r : List Int × List Int}, Ev (fun k => if v = 0 then (some (levels xs, (([] : List Int)))) else (if v = 1 then ((spec_l21Rd_num.f k b (q2 + 1) (([0, 41] : List Int))).bind fun bt576 => (if 0 < (ws.length : Int) then (some (levels xs, (ws.set (0 : Int).toNat bt576.1))) else (none))) else (some (levels xs, ws)))) r → Ev (fun k => spec_DrawTicksOf.f k l) r := by
    intro r h
    simp only [spec_DrawTicksOf.f]
    exact evS ho (Ev.bind hd (Ev.bind (specLevels_ev xs (by omega)) (Ev.bind hw (Ev.bind hw2 (Ev.bind hv h)))))
  by_cases c0 : v = 0
  · exact ⟨_, _, pre (evT c0 (Ev.now _)), hlv, by simp⟩
  · by_cases c1 : v = 1
    · refine ⟨_, ws.set 0 u, pre ?_, hlv, by simp; omega⟩
      refine evF c0 (evT c1 (Ev.bind hu ?_))
      exact evT (by omega) (Ev.now _)
    · exact ⟨_, _, pre (evF c0 (evF c1 (Ev.now _))), hlv, j1.2⟩

theorem clock_l0 (ls ws bits : List Int) (fine : Bool) (hfine : bitsOf ls = (bits, fine)) (htk : tkOk ls ws) (hwl : ws.length ≤ 30) : ∀ (d : Nat) (W : Nat), W + d = 41 →
    Ev (fun k => laws_FnClockDrift.l0 k ws (ticks ls ws) bits fine (W : Int)) true := by
  intro d
  induction d with
  | zero =>
    intro W hW
    refine Ev.step (fun k => by rw [laws_FnClockDrift.l0]) ?_
    exact evF (by omega) (Ev.now _)
  | succ d ih =>
    intro W hW
    have eW : wrap64 ((W : Int) + 1) = ((W + 1 : Nat) : Int) := by rw [w64 (by omega) (by omega)]; omega
    have next := ih (W + 1) (by omega)
    have jT : Ev (fun k => laws_FnClockDrift.j3 k ws (ticks ls ws) bits fine (W : Int) (W : Int) true) true := by
      refine Ev.step (fun k => by rw [laws_FnClockDrift.j3]) ?_
      refine evT rfl ?_
      rw [eW]; exact next
    have loop : ∀ (e i : Nat) (nr : Bool), i + e = ws.length → (nr = true → 0 < W ∧ ∀ j, j < i → 3 * (W : Int) ≤ 4 * ws.getD j 0 ∧ 4 * ws.getD j 0 < 5 * (W : Int)) →
        Ev (fun k => laws_FnClockDrift.l1 k ws (ticks ls ws) bits fine (W : Int) nr (W : Int) ws (ws.length : Int) (i : Int)) true := by
      intro e
      induction e with
      | zero =>
        intro i nr hi hn
        refine Ev.step (fun k => by rw [laws_FnClockDrift.l1]) ?_
        refine evF (by omega) ?_
        cases nr with
        | false => exact evF (by simp) jT
        | true =>
          obtain ⟨n1, n2⟩ := hn rfl
          refine evT rfl ?_
          cases fine with
          | false => exact jT
          | true =>
            have hnear : ∀ x ∈ ws, 3 * (W : Int) ≤ 4 * x ∧ 4 * x < 5 * (W : Int) := fun x hx => by
              obtain ⟨j, hj, rfl⟩ := List.getElem_of_mem hx
              have := n2 j (by omega)
              rwa [getD_at ws j hj] at this
            have hr := drift htk hfine (W := (W : Int)) (by omega) hnear
            have hlen := ticks_len ls ws
            have hbl := bits_len ls
            rw [hfine] at hbl
            replace hbl : bits.length ≤ 200 := hbl
            refine Ev.step (fun k => by rw [laws_FnClockDrift.j3]) ?_
            refine evF (by simp) (Ev.bind (evE (implRead_ev (ticks ls ws) (by omega) (W : Int)) hr) ?_)
            refine evT rfl (Ev.bind (evE (wnInts_ev bits bits (by omega)) (show decide (bits = bits) = true by simp)) ?_)
            refine evT rfl ?_
            rw [eW]; exact next
      | succ e ihe =>
        intro i nr hi hn
        have ei : wrap64 ((i : Int) + 1) = ((i + 1 : Nat) : Int) := by rw [w64 (by omega) (by omega)]; omega
        have hx := wid1_of htk.2.2.2 (getD_mem (l := ws) (i := i) (by omega))
        refine Ev.step (fun k => by rw [laws_FnClockDrift.l1]) ?_
        rw [ei, rdN]
        refine evT (by omega) (evT (by omega) (evT (by omega) ?_))
        cases nr with
        | false => exact evF (by simp) (ihe (i + 1) false (by omega) (fun h => by cases h))
        | true =>
          obtain ⟨n1, n2⟩ := hn rfl
          rw [w64 (x := 4 * ws.getD i 0) (by omega) (by omega), w64 (x := 3 * (W : Int)) (by omega) (by omega), w64 (x := 5 * (W : Int)) (by omega) (by omega)]
          refine evT rfl ?_
          by_cases c : 4 * ws.getD i 0 ≥ 3 * (W : Int)
          · refine evT c (ihe (i + 1) _ (by omega) (fun h => ⟨n1, fun j hj => ?_⟩))
            by_cases ej : j = i
            · rw [ej]; exact ⟨c, of_decide_eq_true h⟩
            · exact n2 j (by omega)
          · exact evF c (ihe (i + 1) false (by omega) (fun h => by cases h))
    refine Ev.step (fun k => by rw [laws_FnClockDrift.l0]) ?_
    refine evT (by omega) ?_
    exact loop ws.length 0 _ (by omega) (fun h => ⟨by have := of_decide_eq_true h; omega, fun j hj => by omega⟩)
theorem q_FnClockDrift : laws_FnClockDrift.Pure := by
  intro l hl1 hl2 hb
  refine Ev.rounds ?_
  simp only [laws_FnClockDrift.f]
  by_cases h0 : (l.length : Int) > 1048576
  · exact evT h0 (Ev.now _)
  obtain ⟨ls, ws, hd, k1, k2⟩ := drawTicks_ev l hb
  have hlen := ticks_len ls ws
  have hq : Ev (fun k => laws_wnInts.f k (ticks ls ws) (ticks ls ws)) true := evE (wnInts_ev _ _ (by omega)) (by simp)
  refine evF h0 (Ev.bind hd (Ev.bind (implTicks_ev ls ws (by omega) (by omega)) (Ev.bind (specTicks_ev ls ws (by omega) (by omega)) (Ev.bind hq ?_))))
  refine evT rfl ?_
  by_cases hz : (ticks ls ws).length = 0
  · rw [show (((ticks ls ws).length : Int) == 0) = true by simpa using hz]
    refine Ev.step (fun k => by rw [laws_FnClockDrift.j0]) ?_
    exact evT rfl (Ev.bind (specTicks_ev ls ws (by omega) (by omega)) (Ev.bind hq (Ev.now _)))
  · rw [show (((ticks ls ws).length : Int) == 0) = false by simpa using hz]
    have htk : tkOk ls ws := by
      rcases Classical.em (tkOk ls ws) with h | h
      · exact h
      · exfalso; apply hz; unfold ticks; rw [if_neg h]; rfl
    refine Ev.step (fun k => by rw [laws_FnClockDrift.j0]) ?_
    refine evF (by simp) (evS (implBits_eq ls) ?_)
    generalize hbf : bitsOf ls = g
    obtain ⟨bits, fine⟩ := g
    exact clock_l0 ls ws bits fine hbf htk k2 41 0 (by omega)

end Go.Proofs.Ytegkgandlpiobaa.Q
