/- Plain lemmas on what the printed functions compute (seat Ytjnopjnickcloaa, module Qc). Conditions: each lemma's own. -/
import Derived.Test.YtjnopjnickcloaaQb
import Derived.Test.YtjnopjnickcloaaPA0
import Derived.Test.YtjnopjnickcloaaPA1
import Derived.Test.YtjnopjnickcloaaPA3
import Derived.Test.YtjnopjnickcloaaPA4
import Derived.Test.YtjnopjnickcloaaPA5
import Derived.Test.YtjnopjnickcloaaPA6
import Derived.Test.YtjnopjnickcloaaPA8
set_option linter.unusedVariables false
set_option linter.unusedSimpArgs false
namespace Go.Proofs.Ytjnopjnickcloaa.Q
open Go Go.RowKit Go.Proofs.Ytjnopjnickcloaa.PA Go.Proofs.YtjnopjnickcloaaW.PrintWords Go.Proofs.YtjnopjnickcloaaW.PrintLast

/-! ### shared wires: waits, queues, counts -/
theorem l1In_eq (a b c : Int) : spec_l1In.f a b c = some (decide (b ≤ a ∧ a ≤ c)) := by
  unfold spec_l1In.f
  by_cases h : a ≥ b
  · rw [if_pos h]; simp; omega
  · rw [if_neg h]; simp; omega
theorem within_eq (a b c : Int) : impl_within.f a b c = some (decide (b ≤ a ∧ a ≤ c)) := by
  unfold impl_within.f
  by_cases h : b ≤ a
  · rw [if_pos h]; simp; omega
  · rw [if_neg h]; simp; omega
/-- 2 to the power of tries, or of 5 -/
def pw (t : Int) : Int := if t ≤ 1 then 2 else if t = 2 then 4 else if t = 3 then 8 else if t = 4 then 16 else 32
theorem pw_eq (t : Int) (h : 1 ≤ t) : 0 ≤ mn t 5 ∧ wrap64 (2 ^ (mn t 5).toNat) = pw t := by
  have hc : t = 1 ∨ t = 2 ∨ t = 3 ∨ t = 4 ∨ 5 ≤ t := by omega
  rcases hc with rfl | rfl | rfl | rfl | h5
  · exact ⟨by decide +kernel, by decide +kernel⟩
  · exact ⟨by decide +kernel, by decide +kernel⟩
  · exact ⟨by decide +kernel, by decide +kernel⟩
  · exact ⟨by decide +kernel, by decide +kernel⟩
  · have e : mn t 5 = 5 := by unfold mn; split <;> omega
    have e2 : pw t = 32 := by unfold pw; rw [if_neg (by omega), if_neg (by omega), if_neg (by omega), if_neg (by omega)]
    rw [e, e2]
    exact ⟨by decide +kernel, by decide +kernel⟩
theorem pw_pos (t : Int) : 2 ≤ pw t ∧ pw t ≤ 32 := by
  unfold pw
  repeat' split
  all_goals omega
/-- how long a station waits -/
def wait (t d : Int) : Int := if 1 ≤ t ∧ 0 ≤ d ∧ d ≤ 1000 then d % pw t else -1
theorem implWait_eq (t d : Int) : impl_WaitOf.f t d = some (wait t d) := by
  unfold impl_WaitOf.f impl_isDraw.f wait
  rw [within_eq]
  by_cases h1 : t < 1
  · rw [if_pos h1, if_neg (by omega)]
  · rw [if_neg h1]
    simp only [Option.bind_some]
    by_cases h2 : 0 ≤ d ∧ d ≤ 1000
    · obtain ⟨e1, e2⟩ := pw_eq t (by omega)
      have e3 := pw_pos t
      rw [decide_eq_true h2, if_pos rfl, if_pos e1, e2, if_neg (by omega), if_pos ⟨by omega, h2⟩, Int.tmod_eq_emod_of_nonneg h2.1]
    · rw [decide_eq_false h2, if_neg (by simp), if_neg (fun x => h2 x.2)]
theorem specWait_eq (t d : Int) : spec_WaitOf.f t d = some (wait t d) := by
  unfold spec_WaitOf.f spec_l9Wait.f wait
  rw [l1In_eq]
  by_cases h1 : t < 1
  · rw [if_pos h1, if_neg (by omega)]
  · rw [if_neg h1]
    simp only [Option.bind_some]
    by_cases h2 : 0 ≤ d ∧ d ≤ 1000
    · obtain ⟨e1, e2⟩ := pw_eq t (by omega)
      have e3 := pw_pos t
      rw [decide_eq_true h2, if_pos rfl, if_pos e1, e2, if_neg (by omega), if_pos ⟨by omega, h2⟩, Int.tmod_eq_emod_of_nonneg h2.1]
      rfl
    · rw [decide_eq_false h2, if_neg (by simp), if_neg (fun x => h2 x.2)]
/-- are these queues? -/
def tv (l : List Int) : Bool := decide ((l.length : Int) ≤ 6) && l.all (fun n => decide (0 ≤ n ∧ n ≤ 9))
theorem implTalk_eq (l : List Int) : impl_TalkValid.f l = some (tv l) := rfl
theorem specTalk_l0 (l : List Int) (hl : l.length ≤ 1000000000000) : ∀ (d i : Nat), i + d = l.length →
    Ev (fun k => spec_TalkValid.l0 k l (i : Int)) (decide ((l.length : Int) ≤ 6) && (l.drop i).all (fun n => decide (0 ≤ n ∧ n ≤ 9))) := by
  intro d
  induction d with
  | zero =>
    intro i hi
    refine Ev.step (fun k => by rw [spec_TalkValid.l0]) ?_
    refine evF (by omega) (evE (Ev.now _) ?_)
    rw [List.drop_of_length_le (by omega)]
    simp
  | succ d ih =>
    intro i hi
    have ha : l.drop i = l[i]'(by omega) :: l.drop (i + 1) := List.drop_eq_getElem_cons (by omega)
    have e : wrap64 ((i : Int) + 1) = ((i + 1 : Nat) : Int) := by rw [w64 (by omega) (by omega)]; omega
    refine Ev.step (fun k => by rw [spec_TalkValid.l0]) ?_
    refine evT (by omega) (evT (by omega) ?_)
    rw [rd_at l i (by omega), e, ha]
    refine evS (l1In_eq _ _ _) ?_
    by_cases h : 0 ≤ l[i]'(by omega) ∧ l[i]'(by omega) ≤ 9
    · refine evT (decide_eq_true h) (evE (ih (i + 1) (by omega)) ?_)
      rw [List.all_cons, decide_eq_true h]; simp
    · refine evF (by simpa using h) (evE (Ev.now _) ?_)
      rw [List.all_cons, decide_eq_false h]; simp
theorem specTalk_ev (l : List Int) (hl : l.length ≤ 1000000000000) : Ev (fun k => spec_TalkValid.f k l) (tv l) := by
  simp only [spec_TalkValid.f]
  exact specTalk_l0 l hl l.length 0 (by omega)
theorem tv_elim (l : List Int) (h : tv l = true) : l.length ≤ 6 ∧ ∀ (i : Nat) (hi : i < l.length), 0 ≤ l[i] ∧ l[i] ≤ 9 := by
  unfold tv at h
  rw [Bool.and_eq_true] at h
  refine ⟨by have := of_decide_eq_true h.1; omega, fun i hi => ?_⟩
  have := List.all_eq_true.1 h.2 l[i] (List.getElem_mem _)
  exact of_decide_eq_true this
/-- is the i-th of the list k? -/
def isAt (l : List Int) (k i : Nat) : Int := if l.getD i 0 = (k : Int) then 1 else 0
theorem isAt_bd (l : List Int) (k i : Nat) : 0 ≤ isAt l k i ∧ isAt l k i ≤ 1 := by unfold isAt; split <;> omega
/-- how often each number below n is in the list -/
def sent (l : List Int) (n : Int) : List Int := if 0 ≤ n ∧ n ≤ 6 then row (isAt l) n.toNat l.length else []
theorem getD_at (l : List Int) (i : Nat) (h : i < l.length) : l.getD i 0 = l[i] := by simp [List.getD_eq_getElem?_getD, h]
theorem implSent_l0 (l : List Int) (hl : l.length ≤ 1000000000000) (n : Nat) (hn : n ≤ 6) : ∀ (d i : Nat), i + d = l.length →
    Ev (fun k => impl_SentBy.l0 k (n : Int) (row (isAt l) n i) l (l.length : Int) (i : Int)) (row (isAt l) n l.length) := by
  intro d
  induction d with
  | zero =>
    intro i hi
    obtain rfl : i = l.length := by omega
    refine Ev.step (fun k => by rw [impl_SentBy.l0]) ?_
    exact evF (by omega) (Ev.now _)
  | succ d ih =>
    intro i hi
    have e : wrap64 ((i : Int) + 1) = ((i + 1 : Nat) : Int) := by rw [w64 (by omega) (by omega)]; omega
    have e2 : wrap64 ((n : Int) - 1) = (n : Int) - 1 := w64 (by omega) (by omega)
    have hd := getD_at l i (by omega)
    refine Ev.step (fun k => by rw [impl_SentBy.l0]) ?_
    refine evT (by omega) (evT (by omega) (evT (by omega) ?_))
    rw [rd_at l i (by omega), e, e2]
    refine evS (within_eq _ _ _) ?_
    by_cases h : 0 ≤ l[i]'(by omega) ∧ l[i]'(by omega) ≤ (n : Int) - 1
    · obtain ⟨m, hm⟩ := Int.eq_ofNat_of_zero_le h.1
      have hmn : m < n := by omega
      have hml : m < (row (isAt l) n i).length := by rw [row_length]; exact hmn
      refine evT (decide_eq_true h) ?_
      rw [hm] at hd ⊢
      refine evT (by omega) (evT (by omega) ?_)
      have hs := row_step (isAt l) n i m hmn (fun w _ hw => by unfold isAt; rw [hd, if_neg (by omega)])
      have h1 : isAt l m i = 1 := by unfold isAt; rw [hd, if_pos rfl]
      rw [h1] at hs
      have hb := sumTo_bd (isAt_bd l m) i
      rw [rd_at _ m hml]
      have e3 : wrap64 ((row (isAt l) n i)[m]'hml + 1) = (row (isAt l) n i)[m]'hml + 1 := by rw [row_get, w64 (by omega) (by omega)]
      rw [e3, show ((m : Int) : Int).toNat = m from rfl, ← hs]
      exact ih (i + 1) (by omega)
    · refine evF (by simpa using h) ?_
      have hs := row_same (isAt l) n i (fun w hw => by unfold isAt; rw [hd, if_neg (by omega)])
      rw [← hs]
      exact ih (i + 1) (by omega)
theorem implSent_ev (l : List Int) (hl : l.length ≤ 1000000000000) (n : Int) : Ev (fun k => impl_SentBy.f k l n) (sent l n) := by
  unfold sent
  simp only [impl_SentBy.f]
  refine evS (within_eq _ _ _) ?_
  by_cases h : 0 ≤ n ∧ n ≤ 6
  · obtain ⟨m, rfl⟩ := Int.eq_ofNat_of_zero_le h.1
    rw [if_pos h]
    refine evT (decide_eq_true h) (evT h.1 (evT (by omega) ?_))
    rw [show ((m : Int) : Int).toNat = m from rfl, row_zero (isAt l)]
    exact implSent_l0 l hl m (by omega) l.length 0 (by omega)
  · rw [if_neg h]
    exact evF (by simpa using h) (Ev.now _)
theorem specSent_l1 (l : List Int) (hl : l.length ≤ 1000000000000) (n : Int) (acc : List Int) (hacc : acc.length ≤ 1000) (j : Nat) : ∀ (d i : Nat) (r : List Int), i + d = l.length →
    Ev (fun k => spec_SentBy.l0 k l n (acc ++ [sumTo (isAt l j) l.length]) (wrap64 ((j : Int) + 1))) r → Ev (fun k => spec_SentBy.l1 k l n acc (j : Int) (sumTo (isAt l j) i) (i : Int)) r := by
  intro d
  induction d with
  | zero =>
    intro i r hi hn
    obtain rfl : i = l.length := by omega
    refine Ev.step (fun k => by rw [spec_SentBy.l1]) ?_
    exact evF (by omega) (evT (by omega) hn)
  | succ d ih =>
    intro i r hi hn
    have e : wrap64 ((i : Int) + 1) = ((i + 1 : Nat) : Int) := by rw [w64 (by omega) (by omega)]; omega
    have hd := getD_at l i (by omega)
    have hb := sumTo_bd (isAt_bd l j) i
    have h3 : sumTo (isAt l j) (i + 1) = sumTo (isAt l j) i + isAt l j i := rfl
    refine Ev.step (fun k => by rw [spec_SentBy.l1]) ?_
    refine evT (by omega) (evT (by omega) ?_)
    rw [rd_at l i (by omega), e]
    have hi1 := ih (i + 1) r (by omega) hn
    rw [h3] at hi1
    by_cases h : l[i]'(by omega) = (j : Int)
    · refine evT h ?_
      rw [show isAt l j i = 1 from by unfold isAt; rw [hd, if_pos h]] at hi1
      rw [w64 (x := sumTo (isAt l j) i + 1) (by omega) (by omega)]
      exact hi1
    · refine evF h ?_
      rw [show isAt l j i = 0 from by unfold isAt; rw [hd, if_neg h], Int.add_zero] at hi1
      exact hi1
theorem specSent_l0 (l : List Int) (hl : l.length ≤ 1000000000000) (n : Nat) (hn : n ≤ 6) : ∀ (d j : Nat), j + d = n →
    Ev (fun k => spec_SentBy.l0 k l (n : Int) (row (isAt l) j l.length) (j : Int)) (row (isAt l) n l.length) := by
  intro d
  induction d with
  | zero =>
    intro j hj
    obtain rfl : j = n := by omega
    refine Ev.step (fun k => by rw [spec_SentBy.l0]) ?_
    exact evF (by omega) (Ev.now _)
  | succ d ih =>
    intro j hj
    have e : wrap64 ((j : Int) + 1) = ((j + 1 : Nat) : Int) := by rw [w64 (by omega) (by omega)]; omega
    refine Ev.step (fun k => by rw [spec_SentBy.l0]) ?_
    refine evT (by omega) ?_
    refine specSent_l1 l hl n _ (by rw [row_length]; omega) j l.length 0 _ (by omega) ?_
    rw [e]
    have h1 : row (isAt l) j l.length ++ [sumTo (isAt l j) l.length] = row (isAt l) (j + 1) l.length := by
      unfold row
      rw [List.range_succ, List.map_append]
      rfl
    rw [h1]
    exact ih (j + 1) (by omega)
theorem specSent_ev (l : List Int) (hl : l.length ≤ 1000000000000) (n : Int) : Ev (fun k => spec_SentBy.f k l n) (sent l n) := by
  unfold sent
  simp only [spec_SentBy.f]
  refine evS rfl (evS (l1In_eq _ _ _) ?_)
  by_cases h : 0 ≤ n ∧ n ≤ 6
  · obtain ⟨m, rfl⟩ := Int.eq_ofNat_of_zero_le h.1
    rw [if_pos h]
    refine evT (decide_eq_true h) ?_
    exact specSent_l0 l hl m (by omega) m 0 (by omega)
  · rw [if_neg h]
    exact evF (by simpa using h) (Ev.now _)
theorem sent_length (l : List Int) (n : Int) : (sent l n).length ≤ 6 := by
  unfold sent
  split
  · rw [row_length]; omega
  · simp
/-- the greatest from place i on, m so far -/
def mostFrom : List Int → Int → Int
  | [], m => m
  | x :: xs, m => mostFrom xs (if m < x then x else m)
theorem mostFrom_bd (l : List Int) (h : ∀ x ∈ l, 0 ≤ x ∧ x ≤ 9) (m : Int) (h0 : 0 ≤ m) (h1 : m ≤ 9) : 0 ≤ mostFrom l m ∧ mostFrom l m ≤ 9 := by
  induction l generalizing m with
  | nil => exact ⟨h0, h1⟩
  | cons x xs ih =>
    have hx := h x List.mem_cons_self
    exact ih (fun y hy => h y (List.mem_cons_of_mem _ hy)) _ (by split <;> omega) (by split <;> omega)
/-- how many turns -/
def turns (l : List Int) (hold : Int) : Int := if tv l = true ∧ 1 ≤ hold ∧ hold ≤ 9 then (mostFrom l 0 + hold - 1) / hold else -1
theorem lastTurn (m hold : Int) (h0 : 0 ≤ m) (h1 : m ≤ 9) (h2 : 1 ≤ hold) (h3 : hold ≤ 9) :
    (if hold = 0 then none else some (wrap64 (Int.tdiv (wrap64 ((wrap64 (m + hold)) - 1)) hold))) = some ((m + hold - 1) / hold) := by
  have hq : 0 ≤ (m + hold - 1) / hold ∧ (m + hold - 1) / hold ≤ m + hold - 1 := ⟨Int.ediv_nonneg (by omega) (by omega), Int.ediv_le_self _ (by omega)⟩
  rw [if_neg (by omega), w64 (x := m + hold) (by omega) (by omega), w64 (x := m + hold - 1) (by omega) (by omega), Int.tdiv_eq_ediv_of_nonneg (by omega), w64 (by omega) (by omega)]
theorem implTurns_l0 (l : List Int) (hl : l.length ≤ 6) (hv : ∀ x ∈ l, 0 ≤ x ∧ x ≤ 9) (hold : Int) (h2 : 1 ≤ hold) (h3 : hold ≤ 9) : ∀ (d i : Nat) (m : Int), i + d = l.length → 0 ≤ m → m ≤ 9 →
    Ev (fun k => impl_TurnsOf.l0 k hold m l (l.length : Int) (i : Int)) ((mostFrom (l.drop i) m + hold - 1) / hold) := by
  intro d
  induction d with
  | zero =>
    intro i m hi h0 h1
    refine Ev.step (fun k => by rw [impl_TurnsOf.l0]) ?_
    refine evF (by omega) ?_
    rw [lastTurn m hold h0 h1 h2 h3, List.drop_of_length_le (by omega)]
    exact Ev.now _
  | succ d ih =>
    intro i m hi h0 h1
    have ha : l.drop i = l[i]'(by omega) :: l.drop (i + 1) := List.drop_eq_getElem_cons (by omega)
    have e : wrap64 ((i : Int) + 1) = ((i + 1 : Nat) : Int) := by rw [w64 (by omega) (by omega)]; omega
    have hx := hv (l[i]'(by omega)) (List.getElem_mem _)
    refine Ev.step (fun k => by rw [impl_TurnsOf.l0]) ?_
    refine evT (by omega) (evT (by omega) (evT (by omega) ?_))
    rw [rd_at l i (by omega), e, ha]
    exact ih (i + 1) _ (by omega) (by unfold mx; split <;> omega) (by unfold mx; split <;> omega)
theorem implTurns_ev (l : List Int) (hold : Int) : Ev (fun k => impl_TurnsOf.f k l hold) (turns l hold) := by
  unfold turns
  simp only [impl_TurnsOf.f]
  refine evS (implTalk_eq l) ?_
  by_cases h : tv l = true
  · have hv := tv_elim l h
    refine evT h (evS (within_eq _ _ _) ?_)
    by_cases h2 : 1 ≤ hold ∧ hold ≤ 9
    · rw [if_pos ⟨h, h2⟩, decide_eq_true h2]
      refine Ev.step (fun k => by rw [impl_TurnsOf.j0]) ?_
      refine evF (by simp) ?_
      exact implTurns_l0 l hv.1 (fun x hx => by obtain ⟨i, hi, rfl⟩ := List.getElem_of_mem hx; exact hv.2 i hi) hold h2.1 h2.2 l.length 0 0 (by omega) (by omega) (by omega)
    · rw [if_neg (fun x => h2 x.2), decide_eq_false h2]
      refine Ev.step (fun k => by rw [impl_TurnsOf.j0]) ?_
      exact evT (by simp) (Ev.now _)
  · rw [if_neg (fun x => h x.1)]
    refine evF h ?_
    refine Ev.step (fun k => by rw [impl_TurnsOf.j0]) ?_
    exact evT rfl (Ev.now _)
theorem specTurns_l0 (l : List Int) (hl : l.length ≤ 6) (hv : ∀ x ∈ l, 0 ≤ x ∧ x ≤ 9) (hold : Int) (h2 : 1 ≤ hold) (h3 : hold ≤ 9) : ∀ (d i : Nat) (m : Int), i + d = l.length → 0 ≤ m → m ≤ 9 →
    Ev (fun k => spec_TurnsOf.l0 k l hold m (i : Int)) ((mostFrom (l.drop i) m + hold - 1) / hold) := by
  intro d
  induction d with
  | zero =>
    intro i m hi h0 h1
    refine Ev.step (fun k => by rw [spec_TurnsOf.l0]) ?_
    refine evF (by omega) ?_
    rw [lastTurn m hold h0 h1 h2 h3, List.drop_of_length_le (by omega)]
    exact Ev.now _
  | succ d ih =>
    intro i m hi h0 h1
    have ha : l.drop i = l[i]'(by omega) :: l.drop (i + 1) := List.drop_eq_getElem_cons (by omega)
    have e : wrap64 ((i : Int) + 1) = ((i + 1 : Nat) : Int) := by rw [w64 (by omega) (by omega)]; omega
    have hx := hv (l[i]'(by omega)) (List.getElem_mem _)
    refine Ev.step (fun k => by rw [spec_TurnsOf.l0]) ?_
    refine evT (by omega) (evT (by omega) ?_)
    rw [rd_at l i (by omega), e, ha]
    exact ih (i + 1) _ (by omega) (by unfold mx; split <;> omega) (by unfold mx; split <;> omega)
theorem specTurns_ev (l : List Int) (hl : l.length ≤ 1000000000000) (hold : Int) : Ev (fun k => spec_TurnsOf.f k l hold) (turns l hold) := by
  unfold turns
  simp only [spec_TurnsOf.f]
  refine Ev.bind (specTalk_ev l hl) ?_
  by_cases h : tv l = true
  · have hv := tv_elim l h
    refine evT h (evS (l1In_eq _ _ _) ?_)
    by_cases h2 : 1 ≤ hold ∧ hold ≤ 9
    · rw [if_pos ⟨h, h2⟩, decide_eq_true h2]
      refine Ev.step (fun k => by rw [spec_TurnsOf.j0]) ?_
      refine evF (by simp) ?_
      exact specTurns_l0 l hv.1 (fun x hx => by obtain ⟨i, hi, rfl⟩ := List.getElem_of_mem hx; exact hv.2 i hi) hold h2.1 h2.2 l.length 0 0 (by omega) (by omega) (by omega)
    · rw [if_neg (fun x => h2 x.2), decide_eq_false h2]
      refine Ev.step (fun k => by rw [spec_TurnsOf.j0]) ?_
      exact evT (by simp) (Ev.now _)
  · rw [if_neg (fun x => h x.1)]
    refine evF h ?_
    refine Ev.step (fun k => by rw [spec_TurnsOf.j0]) ?_
    exact evT rfl (Ev.now _)

end Go.Proofs.Ytjnopjnickcloaa.Q
