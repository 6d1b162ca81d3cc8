/- The two machines of a talk are one: what impl.RunTalk's does with a row of talkers, spec.RunTalk's does with three rows of numbers. Conditions: each lemma's own. -/
import Derived.Test.YtnppflmjlnfhpaaHSlot
set_option linter.unusedVariables false
set_option linter.unusedSimpArgs false
namespace Go.Proofs.Ytnppflmjlnfhpaa.Rk
open Go Go.RowKit Go.Proofs.Ytnppflmjlnfhpaa.PA Go.Proofs.YtnppflmjlnfhpaaW.PrintWords Go.Proofs.YtnppflmjlnfhpaaW.PrintLast
abbrev zz : Tk.T := z50
def ab (s : Tk.St) : Sk.Sp := ⟨s.order, s.hits, s.slots, s.ts.map (·.f0), s.ts.map (·.f1), s.ts.map (·.f2), s.draws⟩
theorem g0 (ts : List Tk.T) (i : Nat) : (ts.map (·.f0)).getD i 0 = (ts.getD i zz).f0 := by
  rw [List.getD_eq_getElem?_getD, List.getD_eq_getElem?_getD, List.getElem?_map]; cases ts[i]? <;> rfl
theorem g1 (ts : List Tk.T) (i : Nat) : (ts.map (·.f1)).getD i 0 = (ts.getD i zz).f1 := by
  rw [List.getD_eq_getElem?_getD, List.getD_eq_getElem?_getD, List.getElem?_map]; cases ts[i]? <;> rfl
theorem g2 (ts : List Tk.T) (i : Nat) : (ts.map (·.f2)).getD i 0 = (ts.getD i zz).f2 := by
  rw [List.getD_eq_getElem?_getD, List.getD_eq_getElem?_getD, List.getElem?_map]; cases ts[i]? <;> rfl
theorem set_same (l : List Int) (i : Nat) : l.set i (l.getD i 0) = l := by
  apply List.ext_getElem?
  intro j
  rw [List.getElem?_set]
  by_cases h : i = j
  · subst h
    by_cases hl : i < l.length
    · simp [hl, List.getD_eq_getElem?_getD]
    · simp [hl]
  · simp [h]
/-- the three rows of talkers in a state -/
def put (p : Sk.Sp) (x : List Tk.T × List Int) : Sk.Sp := { p with qs := x.1.map (·.f0), ws := x.1.map (·.f1), tr := x.1.map (·.f2), ds := x.2 }
theorem hit1_put (p : Sk.Sp) (x : List Tk.T × List Int) (k : Int) : put p (Tk.hit1 x k) = Sk.hit1 (put p x) k := by
  unfold Tk.hit1 Sk.hit1 put
  simp only [List.map_set, g2]
  rw [← g0, set_same]
theorem hits_put (p : Sk.Sp) : ∀ (l : List Int) (x : List Tk.T × List Int), put p (l.foldl Tk.hit1 x) = l.foldl Sk.hit1 (put p x) := by
  intro l
  induction l with
  | nil => intro x; rfl
  | cons k l ih => intro x; rw [List.foldl_cons, List.foldl_cons, ih, hit1_put]
def W0 (ts : List Tk.T) : Prop := ∀ i : Nat, 0 ≤ (ts.getD i zz).f1
theorem sel_now (ts : List Tk.T) (h : W0 ts) : ∀ n, Tk.sel Tk.sendP ts n = Sk.now (ts.map (·.f0)) (ts.map (·.f1)) n := by
  intro n
  induction n with
  | zero => rfl
  | succ n ih =>
    have e : Tk.sendP (ts.getD n zz) = Sk.nowP ((ts.map (·.f0)).getD n 0) ((ts.map (·.f1)).getD n 0) := by
      rw [g0, g1]
      unfold Tk.sendP Tk.waitP Tk.busyP Sk.nowP
      have := h n
      by_cases h0 : 0 < (ts.getD n zz).f1
      · rw [decide_eq_true h0, decide_eq_false (show ¬ (ts.getD n zz).f1 = 0 by omega), Bool.and_false]; rfl
      · rw [decide_eq_false h0, decide_eq_true (show (ts.getD n zz).f1 = 0 by omega), Bool.and_true]; rfl
    rw [Tk.sel, Sk.now, ih, e]
theorem dec_put (old : List Tk.T) (p : Sk.Sp) (T : List Tk.T) (ds : List Int) : ∀ j : Nat, put p ((Tk.sel Tk.waitP old j).foldl Tk.dec1 T, ds) = Sk.decL (old.map (·.f1)) (put p (T, ds)) j := by
  intro j
  induction j with
  | zero => rfl
  | succ j ih =>
    rw [Tk.sel, List.foldl_append, Sk.decL, ← ih]
    unfold Sk.decS
    rw [g1]
    generalize (Tk.sel Tk.waitP old j).foldl Tk.dec1 T = X
    by_cases c : 0 < (old.getD j zz).f1
    · rw [if_pos (show Tk.waitP (old.getD j zz) = true from decide_eq_true c), if_pos c]
      show put p (Tk.dec1 X (j : Int), ds) = _
      unfold Tk.dec1 put
      rw [Int.toNat_natCast]
      simp only [List.map_set, g1]
      rw [← g0, ← g2, set_same, set_same]
    · rw [if_neg (show ¬ Tk.waitP (old.getD j zz) = true from fun h => c (of_decide_eq_true h)), if_neg c]
      rfl
theorem mid_ab (s : Tk.St) (h : W0 s.ts) : ab (Tk.mid s) = { Sk.mid s.ts.length (ab s) with slots := s.slots + 1 } := by
  unfold Tk.mid Sk.mid
  rw [show Sk.now (ab s).qs (ab s).ws s.ts.length = Tk.sel Tk.sendP s.ts s.ts.length from (sel_now s.ts h _).symm]
  generalize Tk.sel Tk.sendP s.ts s.ts.length = S
  by_cases c1 : S.length = 1
  · rw [if_pos c1, if_pos c1]
    unfold Tk.sent1 ab
    simp only [List.map_set]
    rw [← g0, ← g1, set_same]
  · rw [if_neg c1, if_neg c1]
    by_cases c2 : 1 < S.length
    · rw [if_pos c2, if_pos c2]
      have e := hits_put { ab s with hits := s.hits + 1 } S (s.ts, s.draws)
      have e2 : put { ab s with hits := s.hits + 1 } (s.ts, s.draws) = { ab s with hits := s.hits + 1 } := rfl
      rw [e2] at e
      rw [show ({ ab s with hits := (ab s).hits + 1 } : Sk.Sp) = { ab s with hits := s.hits + 1 } from rfl, ← e]
      rfl
    · rw [if_neg c2, if_neg c2]
      rfl
theorem slot_ab (s : Tk.St) (h : W0 s.ts) : ab (Tk.slot s) = Sk.slot s.ts.length (ab s) := by
  have hm := mid_ab s h
  unfold Tk.slot Sk.slot
  have e : ∀ p : Sk.Sp, ∀ sl : Int, ({ Sk.decL (s.ts.map (·.f1)) { p with slots := sl } s.ts.length with slots := sl } : Sk.Sp) = { Sk.decL (s.ts.map (·.f1)) p s.ts.length with slots := sl } := by
    intro p sl
    have e3 : ∀ j, Sk.decL (s.ts.map (·.f1)) { p with slots := sl } j = { Sk.decL (s.ts.map (·.f1)) p j with slots := sl } := by
      intro j
      induction j with
      | zero => rfl
      | succ j ih =>
        rw [Sk.decL, Sk.decL, ih]
        unfold Sk.decS
        split <;> rfl
    rw [e3]
  have h2 := dec_put s.ts (ab (Tk.mid s)) (Tk.mid s).ts (Tk.mid s).draws s.ts.length
  have h3 : put (ab (Tk.mid s)) ((Tk.mid s).ts, (Tk.mid s).draws) = ab (Tk.mid s) := rfl
  rw [h3, hm] at h2
  show put (ab (Tk.mid s)) ((Tk.sel Tk.waitP s.ts s.ts.length).foldl Tk.dec1 (Tk.mid s).ts, (Tk.mid s).draws) = _
  rw [hm, h2]
  have h4 := e (Sk.mid s.ts.length (ab s)) (s.slots + 1)
  have h5 : ∀ j, (Sk.decL (s.ts.map (·.f1)) { Sk.mid s.ts.length (ab s) with slots := s.slots + 1 } j).slots = s.slots + 1 := by
    intro j
    induction j with
    | zero => rfl
    | succ j ih =>
      rw [Sk.decL]
      unfold Sk.decS
      split
      · exact ih
      · exact ih
  have h6 : (Sk.decL (s.ts.map (·.f1)) { Sk.mid s.ts.length (ab s) with slots := s.slots + 1 } s.ts.length) = { Sk.decL (s.ts.map (·.f1)) { Sk.mid s.ts.length (ab s) with slots := s.slots + 1 } s.ts.length with slots := s.slots + 1 } := by
    have := h5 s.ts.length
    generalize Sk.decL (s.ts.map (·.f1)) { Sk.mid s.ts.length (ab s) with slots := s.slots + 1 } s.ts.length = X at this
    cases X
    simp only at this
    subst this
    rfl
  rw [h6, h4]
  rfl
/-! ### what stays: no wait and no queue is below zero -/
structure Good (s : Tk.St) : Prop where
  w : W0 s.ts
  q : ∀ i : Nat, 0 ≤ (s.ts.getD i zz).f0
  d : Tk.Dr s.draws
def Ok (ts0 : List Tk.T) (x : List Tk.T × List Int) : Prop :=
  x.1.length = ts0.length ∧ Tk.Dr x.2 ∧ ∀ i : Nat, 0 ≤ (x.1.getD i zz).f0 ∧ 0 ≤ (x.1.getD i zz).f1 ∧ (0 < (ts0.getD i zz).f1 → (x.1.getD i zz).f1 = (ts0.getD i zz).f1)
theorem dec_at (old T : List Tk.T) (hl : T.length = old.length) : ∀ m : Nat, m ≤ old.length → ((Tk.sel Tk.waitP old m).foldl Tk.dec1 T).length = old.length ∧
    ∀ i : Nat, ((Tk.sel Tk.waitP old m).foldl Tk.dec1 T).getD i zz = if i < m ∧ 0 < (old.getD i zz).f1 then ⟨(T.getD i zz).f0, (T.getD i zz).f1 - 1, (T.getD i zz).f2⟩ else T.getD i zz := by
  intro m
  induction m with
  | zero => intro _; exact ⟨hl, fun i => by rw [if_neg (by omega)]; rfl⟩
  | succ m ih =>
    intro hm
    obtain ⟨h1, h2⟩ := ih (by omega)
    rw [Tk.sel, List.foldl_append]
    generalize (Tk.sel Tk.waitP old m).foldl Tk.dec1 T = X at h1 h2
    by_cases c : 0 < (old.getD m zz).f1
    · rw [if_pos (show Tk.waitP (old.getD m zz) = true from decide_eq_true c)]
      show (Tk.dec1 X (m : Int)).length = _ ∧ ∀ i : Nat, (Tk.dec1 X (m : Int)).getD i zz = _
      unfold Tk.dec1
      rw [Int.toNat_natCast]
      refine ⟨by rw [List.length_set]; exact h1, fun i => ?_⟩
      rw [Tk.getD_set X m i _ (by omega)]
      by_cases e : m = i
      · subst e
        have h3 := h2 m
        rw [if_neg (by omega)] at h3
        rw [if_pos rfl, if_pos ⟨by omega, c⟩]
        show (⟨(X.getD m zz).f0, (X.getD m zz).f1 - 1, (X.getD m zz).f2⟩ : Tk.T) = _
        rw [h3]
      · rw [if_neg e, h2 i]
        by_cases c2 : i < m ∧ 0 < (old.getD i zz).f1
        · rw [if_pos c2, if_pos ⟨by omega, c2.2⟩]
        · rw [if_neg c2, if_neg (fun h => c2 ⟨by omega, h.2⟩)]
    · rw [if_neg (show ¬ Tk.waitP (old.getD m zz) = true from fun h => c (of_decide_eq_true h))]
      refine ⟨h1, fun i => ?_⟩
      show X.getD i zz = _
      rw [h2 i]
      by_cases c2 : i < m ∧ 0 < (old.getD i zz).f1
      · rw [if_pos c2, if_pos ⟨by omega, c2.2⟩]
      · rw [if_neg c2, if_neg (fun h => c2 ⟨by
          by_cases e : i = m
          · subst e; exact absurd h.2 c
          · omega, h.2⟩)]
theorem head_ok {ds : List Int} (h : Tk.Dr ds) (j : Nat) : 0 ≤ ds.headD (33 * (j : Int)) ∧ ds.headD (33 * (j : Int)) ≤ 1000 ∨ 0 ≤ ds.headD (33 * (j : Int)) := by
  match ds, h with
  | [], _ => right; simp only [List.headD_nil]; omega
  | d :: _, h => left; exact h d (by simp)
theorem hits_ok (ts0 : List Tk.T) (hw : W0 ts0) : ∀ (l : List Int) (x : List Tk.T × List Int), (∀ k ∈ l, ∃ j : Nat, k = (j : Int) ∧ j < ts0.length ∧ Tk.sendP (ts0.getD j zz) = true) → Ok ts0 x → Ok ts0 (l.foldl Tk.hit1 x) := by
  intro l
  induction l with
  | nil => intro x _ h; exact h
  | cons k l ih =>
    intro x hk h
    rw [List.foldl_cons]
    refine ih _ (fun y hy => hk y (by simp [hy])) ?_
    obtain ⟨j, rfl, hj, hs⟩ := hk k (by simp)
    obtain ⟨h1, h2, h3⟩ := h
    have h0 : ¬ 0 < (ts0.getD j zz).f1 := fun hp => by
      unfold Tk.sendP Tk.waitP at hs
      rw [decide_eq_true hp] at hs
      cases hs
    have hd : 0 ≤ x.2.headD (33 * (j : Int)) := by rcases head_ok h2 j with h | h <;> omega
    unfold Tk.hit1
    rw [Int.toNat_natCast]
    refine ⟨by rw [List.length_set]; exact h1, fun d hd' => h2 d (List.mem_of_mem_tail hd'), fun i => ?_⟩
    rw [Tk.getD_set x.1 j i _ (by omega)]
    by_cases e : j = i
    · subst e
      rw [if_pos rfl]
      exact ⟨(h3 j).1, Int.tmod_nonneg _ hd, fun hp => absurd hp h0⟩
    · rw [if_neg e]; exact h3 i
theorem mid_ok {s : Tk.St} (h : Good s) : Ok s.ts ((Tk.mid s).ts, (Tk.mid s).draws) := by
  have hok : Ok s.ts (s.ts, s.draws) := ⟨rfl, h.d, fun i => ⟨h.q i, h.w i, fun _ => rfl⟩⟩
  have hS : ∀ k ∈ Tk.sel Tk.sendP s.ts s.ts.length, ∃ j : Nat, k = (j : Int) ∧ j < s.ts.length ∧ Tk.sendP (s.ts.getD j zz) = true := fun k hk => Tk.sel_mem _ hk
  unfold Tk.mid
  generalize Tk.sel Tk.sendP s.ts s.ts.length = S at hS
  by_cases c1 : S.length = 1
  · rw [if_pos c1]
    have hx : S.headD 0 ∈ S := by
      match S, c1 with
      | x :: _, _ => simp
    obtain ⟨j, hj, hl, hs⟩ := hS _ hx
    rw [hj]
    have h0 : ¬ 0 < (s.ts.getD j zz).f1 := fun hp => by
      unfold Tk.sendP Tk.waitP at hs
      rw [decide_eq_true hp] at hs
      cases hs
    have hb : 0 < (s.ts.getD j zz).f0 := by
      unfold Tk.sendP at hs
      rw [Bool.and_eq_true] at hs
      exact of_decide_eq_true hs.2
    unfold Tk.sent1
    rw [Int.toNat_natCast]
    refine ⟨by rw [List.length_set], h.d, fun i => ?_⟩
    rw [Tk.getD_set s.ts j i _ hl]
    by_cases e : j = i
    · subst e
      rw [if_pos rfl]
      exact ⟨by show 0 ≤ (s.ts.getD j zz).f0 - 1; omega, h.w j, fun _ => rfl⟩
    · rw [if_neg e]; exact hok.2.2 i
  · rw [if_neg c1]
    by_cases c2 : 1 < S.length
    · rw [if_pos c2]; exact hits_ok s.ts h.w S _ hS hok
    · rw [if_neg c2]; exact hok
theorem slot_good {s : Tk.St} (h : Good s) : Good (Tk.slot s) ∧ (Tk.slot s).ts.length = s.ts.length := by
  obtain ⟨h1, h2, h3⟩ := mid_ok h
  obtain ⟨k1, k2⟩ := dec_at s.ts (Tk.mid s).ts h1 s.ts.length (Nat.le_refl _)
  refine ⟨⟨fun i => ?_, fun i => ?_, h2⟩, k1⟩
  · show 0 ≤ (((Tk.sel Tk.waitP s.ts s.ts.length).foldl Tk.dec1 (Tk.mid s).ts).getD i zz).f1
    rw [k2 i]
    have h4 := h3 i
    split
    · rename_i c
      have h5 : ((Tk.mid s).ts.getD i zz).f1 = (s.ts.getD i zz).f1 := h4.2.2 c.2
      have h6 := c.2
      show 0 ≤ ((Tk.mid s).ts.getD i zz).f1 - 1
      omega
    · exact h4.2.1
  · show 0 ≤ (((Tk.sel Tk.waitP s.ts s.ts.length).foldl Tk.dec1 (Tk.mid s).ts).getD i zz).f0
    rw [k2 i]
    split
    · exact (h3 i).1
    · exact (h3 i).1
theorem busy_sum : ∀ ts : List Tk.T, (∀ x ∈ ts, 0 ≤ x.f0) → 0 ≤ (ts.map (·.f0)).sum ∧ ts.any Tk.busyP = decide (0 < (ts.map (·.f0)).sum) := by
  intro ts
  induction ts with
  | nil => intro _; exact ⟨Int.le_refl _, rfl⟩
  | cons x ts ih =>
    intro h
    obtain ⟨h1, h2⟩ := ih (fun y hy => h y (by simp [hy]))
    have hx := h x (by simp)
    rw [List.map_cons, List.sum_cons, List.any_cons, h2]
    clear h2 ih h
    generalize (ts.map (·.f0)).sum = Z at h1
    refine ⟨by omega, ?_⟩
    unfold Tk.busyP
    by_cases c : 0 < x.f0
    · rw [decide_eq_true c, decide_eq_true (show 0 < x.f0 + Z by omega), Bool.true_or]
    · rw [decide_eq_false c, Bool.false_or]
      congr 1
      exact propext ⟨fun _ => by omega, fun _ => by omega⟩
theorem Good.busy {s : Tk.St} (h : Good s) : 0 ≤ (ab s).qs.sum ∧ s.ts.any Tk.busyP = decide (0 < (ab s).qs.sum) := busy_sum s.ts (fun x hx => by
  obtain ⟨i, hi, rfl⟩ := List.getElem_of_mem hx
  have := h.q i
  rw [List.getD_eq_getElem?_getD, List.getElem?_eq_getElem hi] at this
  exact this)
theorem run_ab : ∀ (k : Nat) (s : Tk.St), Good s → ab (Tk.run k s) = Sk.run s.ts.length k (ab s) ∧ Good (Tk.run k s) := by
  intro k
  induction k with
  | zero => intro s h; exact ⟨rfl, h⟩
  | succ k ih =>
    intro s h
    rw [Tk.run, Sk.run, h.busy.2]
    by_cases c : 0 < (ab s).qs.sum
    · rw [if_pos (decide_eq_true c), if_pos c]
      obtain ⟨h1, h2⟩ := slot_good h
      have := ih (Tk.slot s) h1
      rw [h2, slot_ab s h.w] at this
      exact this
    · rw [if_neg (by rw [decide_eq_false c]; decide), if_neg c]
      exact ⟨rfl, h⟩
end Go.Proofs.Ytnppflmjlnfhpaa.Rk
