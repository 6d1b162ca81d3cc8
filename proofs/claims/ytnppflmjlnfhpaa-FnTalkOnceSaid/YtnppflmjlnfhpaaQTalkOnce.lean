/- Plain lemmas on what the printed functions compute (seat Ytnppflmjlnfhpaa, module QTalkOnce). Conditions: each lemma's own. -/
import Derived.Test.YtnppflmjlnfhpaaQu
import Derived.Test.YtnppflmjlnfhpaaPA0
import Derived.Test.YtnppflmjlnfhpaaPA1
import Derived.Test.YtnppflmjlnfhpaaPA10
import Derived.Test.YtnppflmjlnfhpaaPA5
set_option linter.unusedVariables false
set_option linter.unusedSimpArgs false
namespace Go.Proofs.Ytnppflmjlnfhpaa.Q
open Go Go.RowKit Go.Proofs.Ytnppflmjlnfhpaa.PA Go.Proofs.YtnppflmjlnfhpaaW.PrintWords Go.Proofs.YtnppflmjlnfhpaaW.PrintLast

/-! ### sums and rows of counts -/
def sumTo (g : Nat → Int) : Nat → Int
  | 0 => 0
  | n + 1 => sumTo g n + g n
theorem sumTo_congr {g h : Nat → Int} (n : Nat) (e : ∀ i, i < n → g i = h i) : sumTo g n = sumTo h n := by
  induction n with
  | zero => rfl
  | succ n ih =>
    have h1 : sumTo g (n + 1) = sumTo g n + g n := rfl
    have h2 : sumTo h (n + 1) = sumTo h n + h n := rfl
    rw [h1, h2, ih (fun i hi => e i (by omega)), e n (by omega)]
theorem sumTo_bd {g : Nat → Int} (h : ∀ i, 0 ≤ g i ∧ g i ≤ 1) (n : Nat) : 0 ≤ sumTo g n ∧ sumTo g n ≤ n := by
  induction n with
  | zero => simp [sumTo]
  | succ n ih =>
    have h1 : sumTo g (n + 1) = sumTo g n + g n := rfl
    have := h n
    rw [h1]; omega
theorem sumTo_zero {g : Nat → Int} (n : Nat) (e : ∀ i, i < n → g i = 0) : sumTo g n = 0 := by
  induction n with
  | zero => rfl
  | succ n ih =>
    have h1 : sumTo g (n + 1) = sumTo g n + g n := rfl
    rw [h1, ih (fun i hi => e i (by omega)), e n (by omega)]; rfl
/-- N counters, each of which has summed i steps -/
def row (g : Nat → Nat → Int) (N i : Nat) : List Int := (List.range N).map fun w => sumTo (g w) i
theorem row_length (g : Nat → Nat → Int) (N i : Nat) : (row g N i).length = N := by simp [row]
theorem row_get (g : Nat → Nat → Int) (N i w : Nat) (h : w < (row g N i).length) : (row g N i)[w] = sumTo (g w) i := by simp [row]
theorem row_same (g : Nat → Nat → Int) (N i : Nat) (h : ∀ w, w < N → g w i = 0) : row g N (i + 1) = row g N i := by
  apply List.ext_getElem (by simp [row_length])
  intro w h1 h2
  rw [row_length] at h1
  rw [row_get, row_get]
  have h3 : sumTo (g w) (i + 1) = sumTo (g w) i + g w i := rfl
  rw [h3, h w h1]; omega
theorem row_step (g : Nat → Nat → Int) (N i m : Nat) (hm : m < N) (h0 : ∀ w, w < N → w ≠ m → g w i = 0) :
    row g N (i + 1) = (row g N i).set m ((row g N i)[m]'(by rw [row_length]; exact hm) + g m i) := by
  apply List.ext_getElem (by simp [row_length])
  intro w h1 h2
  rw [row_length] at h1
  rw [List.getElem_set]
  rw [row_get]
  have h3 : sumTo (g w) (i + 1) = sumTo (g w) i + g w i := rfl
  rw [h3]
  by_cases e : m = w
  · subst e
    rw [if_pos rfl, row_get]
  · rw [if_neg e, row_get, h0 w h1 (fun x => e x.symm)]
    omega
theorem row_zero (g : Nat → Nat → Int) (N : Nat) : List.replicate N 0 = row g N 0 := by
  apply List.ext_getElem (by simp [row_length])
  intro w h1 h2
  rw [row_get]
  simp [sumTo]

theorem within_eq (a b c : Int) : impl_within.f a b c = some (decide (b ≤ a ∧ a ≤ c)) := by
  unfold impl_within.f
  by_cases h : b ≤ a
  · rw [if_pos h]; simp; omega
  · rw [if_neg h]; simp; omega
/-- is the i-th of the list k? -/
def isAt (l : List Int) (k i : Nat) : Int := if l.getD i 0 = (k : Int) then 1 else 0
theorem isAt_bd (l : List Int) (k i : Nat) : 0 ≤ isAt l k i ∧ isAt l k i ≤ 1 := by unfold isAt; split <;> omega
/-- how often each number below n is in the list -/
def sent (l : List Int) (n : Int) : List Int := if 0 ≤ n ∧ n ≤ 6 then row (isAt l) n.toNat l.length else []
theorem getD_at (l : List Int) (i : Nat) (h : i < l.length) : l.getD i 0 = l[i] := by simp [List.getD_eq_getElem?_getD, h]
theorem implSent_l0 (l : List Int) (hl : l.length ≤ 1000000000000) (n : Nat) (hn : n ≤ 6) : ∀ (d i : Nat), i + d = l.length →
    Ev (fun k => impl_SentBy.l0 k (n : Int) (row (isAt l) n i) l (l.length : Int) (i : Int)) (row (isAt l) n l.length) := by
  intro d
  induction d with
  | zero =>
    intro i hi
    obtain rfl : i = l.length := by omega
    refine Ev.step (fun k => by rw [impl_SentBy.l0]) ?_
    exact evF (by omega) (Ev.now _)
  | succ d ih =>
    intro i hi
    have e : wrap64 ((i : Int) + 1) = ((i + 1 : Nat) : Int) := by rw [w64 (by omega) (by omega)]; omega
    have e2 : wrap64 ((n : Int) - 1) = (n : Int) - 1 := w64 (by omega) (by omega)
    have hd := getD_at l i (by omega)
    refine Ev.step (fun k => by rw [impl_SentBy.l0]) ?_
    refine evT (by omega) (evT (by omega) (evT (by omega) ?_))
    rw [rd_at l i (by omega), e, e2]
    refine evS (within_eq _ _ _) ?_
    by_cases h : 0 ≤ l[i]'(by omega) ∧ l[i]'(by omega) ≤ (n : Int) - 1
    · obtain ⟨m, hm⟩ := Int.eq_ofNat_of_zero_le h.1
      have hmn : m < n := by omega
      have hml : m < (row (isAt l) n i).length := by rw [row_length]; exact hmn
      refine evT (decide_eq_true h) ?_
      rw [hm] at hd ⊢
      refine evT (by omega) (evT (by omega) ?_)
      have hs := row_step (isAt l) n i m hmn (fun w _ hw => by unfold isAt; rw [hd, if_neg (by omega)])
      have h1 : isAt l m i = 1 := by unfold isAt; rw [hd, if_pos rfl]
      rw [h1] at hs
      have hb := sumTo_bd (isAt_bd l m) i
      rw [rd_at _ m hml]
      have e3 : wrap64 ((row (isAt l) n i)[m]'hml + 1) = (row (isAt l) n i)[m]'hml + 1 := by rw [row_get, w64 (by omega) (by omega)]
      rw [e3, show ((m : Int) : Int).toNat = m from rfl, ← hs]
      exact ih (i + 1) (by omega)
    · refine evF (by simpa using h) ?_
      have hs := row_same (isAt l) n i (fun w hw => by unfold isAt; rw [hd, if_neg (by omega)])
      rw [← hs]
      exact ih (i + 1) (by omega)
theorem implSent_ev (l : List Int) (hl : l.length ≤ 1000000000000) (n : Int) : Ev (fun k => impl_SentBy.f k l n) (sent l n) := by
  unfold sent
  simp only [impl_SentBy.f]
  refine evS (within_eq _ _ _) ?_
  by_cases h : 0 ≤ n ∧ n ≤ 6
  · obtain ⟨m, rfl⟩ := Int.eq_ofNat_of_zero_le h.1
    rw [if_pos h]
    refine evT (decide_eq_true h) (evT h.1 (evT (by omega) ?_))
    rw [show ((m : Int) : Int).toNat = m from rfl, row_zero (isAt l)]
    exact implSent_l0 l hl m (by omega) l.length 0 (by omega)
  · rw [if_neg h]
    exact evF (by simpa using h) (Ev.now _)
theorem sent_length (l : List Int) (n : Int) : (sent l n).length ≤ 6 := by
  unfold sent
  split
  · rw [row_length]; omega
  · simp

/-! ### each sends what it has, once -/
theorem isAt_app (l : List Int) (k w i : Nat) (h : i < l.length) : isAt (l ++ [(k : Int)]) w i = isAt l w i := by
  unfold isAt
  rw [List.getD_eq_getElem?_getD, List.getD_eq_getElem?_getD, List.getElem?_append_left h]
theorem cnt_app (l : List Int) (k w : Nat) : sumTo (isAt (l ++ [(k : Int)]) w) (l ++ [(k : Int)]).length = sumTo (isAt l w) l.length + (if k = w then 1 else 0) := by
  rw [List.length_append]
  show sumTo (isAt (l ++ [(k : Int)]) w) l.length + isAt (l ++ [(k : Int)]) w l.length = _
  rw [sumTo_congr l.length (fun i hi => isAt_app l k w i hi)]
  congr 1
  unfold isAt
  rw [List.getD_eq_getElem?_getD, List.getElem?_append_right (Nat.le_refl _), Nat.sub_self]
  show (if (k : Int) = (w : Int) then (1 : Int) else 0) = _
  by_cases c : k = w
  · rw [if_pos c, if_pos (by omega)]
  · rw [if_neg c, if_neg (by omega)]
structure Acc (l0 : List Int) (s : Sk.Sp) : Prop where
  len : s.qs.length = l0.length
  q : ∀ w : Nat, 0 ≤ s.qs.getD w 0
  c : ∀ w : Nat, sumTo (isAt s.order w) s.order.length + s.qs.getD w 0 = l0.getD w 0
  h : (s.order.length : Int) + s.hits ≤ s.slots
theorem slot_acc {l0 : List Int} {s : Sk.Sp} (h : Acc l0 s) : Acc l0 (Sk.slot l0.length s) := by
  have h4 : (Sk.slot l0.length s).slots = s.slots + 1 := rfl
  have hh := h.h
  rcases slot_oq l0.length s with ⟨j, hj, hp, ho, hq, hi⟩ | ⟨ho, hq, hi⟩
  · refine ⟨by rw [hq, List.length_set]; exact h.len, fun w => ?_, fun w => ?_, ?_⟩
    · rw [hq, Sk.getD_set s.qs j w _ (by rw [h.len]; exact hj)]
      split
      · omega
      · exact h.q w
    · have hc := h.c w
      rw [hq, ho, cnt_app, Sk.getD_set s.qs j w _ (by rw [h.len]; exact hj)]
      by_cases c : j = w
      · subst c; rw [if_pos rfl, if_pos rfl]; omega
      · rw [if_neg c, if_neg c]; omega
    · rw [ho, hi, h4, List.length_append]; simp; omega
  · exact ⟨by rw [hq]; exact h.len, fun w => by rw [hq]; exact h.q w, fun w => by rw [hq, ho]; exact h.c w, by rw [ho, h4]; rcases hi with hi | hi <;> rw [hi] <;> omega⟩
theorem run_acc {l0 : List Int} : ∀ (k : Nat) (s : Sk.Sp), Acc l0 s → Acc l0 (Sk.run l0.length k s) := by
  intro k
  induction k with
  | zero => intro s h; exact h
  | succ k ih =>
    intro s h
    rw [Sk.run]
    split
    · exact ih _ (slot_acc h)
    · exact h
theorem fin_acc {l0 l1 : List Int} {a2 : Int} (h : Tc l0 l1 a2) : Acc l0 (spec_RunTalk.fin l0 l1 a2) ∧ (spec_RunTalk.fin l0 l1 a2).slots ≤ a2 := by
  refine ⟨run_acc _ _ ⟨rfl, fun w => ?_, fun w => by show (0 : Int) + _ = _; rw [Int.zero_add], Int.le_refl _⟩, ?_⟩
  · show 0 ≤ l0.getD w 0
    rw [List.getD_eq_getElem?_getD]
    by_cases hi : w < l0.length
    · rw [List.getElem?_eq_getElem hi]; exact (h.q.2 _ (List.getElem_mem hi)).1
    · rw [List.getElem?_eq_none (by omega)]; exact Int.le_refl _
  · have h1 := (run_pre l0.length a2.toNat (st0 l0 l1)).2.2
    have h2 : (st0 l0 l1).slots = 0 := rfl
    have h3 := h.a
    show (Sk.run l0.length a2.toNat (st0 l0 l1)).slots ≤ a2
    omega
theorem sum_zero : ∀ (l : List Int), (∀ w : Nat, 0 ≤ l.getD w 0) → 0 ≤ l.sum ∧ (l.sum = 0 → ∀ w : Nat, l.getD w 0 = 0) := by
  intro l
  induction l with
  | nil => intro _; exact ⟨Int.le_refl _, fun _ w => by simp⟩
  | cons x l ih =>
    intro h
    have h0 : 0 ≤ x := by simpa using h 0
    obtain ⟨h1, h2⟩ := ih (fun w => by simpa using h (w + 1))
    rw [List.sum_cons]
    refine ⟨by omega, fun hz w => ?_⟩
    match w with
    | 0 => simp; omega
    | w + 1 => have := h2 (by omega) w; simpa using this
theorem fnTalkOnce_l0 (qs : List Int) (m : Int) (p : Sk.Sp) (dn : Bool) (hn : qs.length ≤ 6) (hA : Acc qs p) (hs : p.slots ≤ m) (ho : p.order.length ≤ 2000) (hh : 0 ≤ p.hits ∧ p.hits ≤ 2000) (hdn : dn = decide (p.qs.sum = 0)) : ∀ d i : Nat, i + d = qs.length →
    Ev (fun k => laws_FnTalkOnce.l0 k qs m (sent p.order (qs.length : Int)) ((sent p.order (qs.length : Int)).length : Int) (i : Int) p.order p.hits p.slots dn) true := by
  have hse : sent p.order (qs.length : Int) = row (isAt p.order) qs.length p.order.length := by
    unfold sent
    rw [if_pos (by omega), Int.toNat_natCast]
  have hl : (sent p.order (qs.length : Int)).length = qs.length := by rw [hse, row_length]
  have hz := sum_zero p.qs hA.q
  intro d
  induction d with
  | zero =>
    intro i hi
    refine Ev.step (fun k => by rw [laws_FnTalkOnce.l0]) ?_
    have h1 := hA.h
    rw [w64 (x := (p.order.length : Int) + p.hits) (by omega) (by omega)]
    exact evF (by omega) (evT (by omega) (evE (Ev.now _) (decide_eq_true hs)))
  | succ d ih =>
    intro i hi
    have hil : i < qs.length := by omega
    have e : wrap64 ((i : Int) + 1) = ((i + 1 : Nat) : Int) := by rw [w64 (by omega) (by omega)]; omega
    have hr1 : rd (sent p.order (qs.length : Int)) (i : Int) = sumTo (isAt p.order i) p.order.length := by
      rw [rd_at _ i (by omega)]
      simp only [hse]
      rw [row_get]
    have hc := hA.c i
    have hq := hA.q i
    have hr2 : rd qs (i : Int) = qs.getD i 0 := by simp [rd]
    have hn2 := ih (i + 1) (by omega)
    refine Ev.step (fun k => by rw [laws_FnTalkOnce.l0]) ?_
    rw [hr1, hr2, e]
    refine evT (by omega) (evT (by omega) (evT (by omega) (evT (by omega) (evF (by omega) ?_))))
    cases dn with
    | false => exact evF (by simp) hn2
    | true =>
      have h0 := hz.2 (of_decide_eq_true hdn.symm) i
      exact evT rfl (evT (by omega) hn2)
theorem q_FnTalkOnce : laws_FnTalkOnce.Pure := by
  intro l hl1 hl2 hb
  refine Ev.rounds ?_
  simp only [laws_FnTalkOnce.f]
  by_cases h0 : (l.length : Int) > 1048576
  · exact evT h0 (Ev.now _)
  obtain ⟨qs, ds, m, hd, _⟩ := drawTalk_ev l hb
  obtain ⟨p, dn, ok, hi, hsp, hlen, hok, _⟩ := talk_ev qs ds m
  have hq : Ev (fun k => laws_wnInts.f k p.order p.order) true := evE (wnInts_ev _ _ (by omega)) (by simp)
  refine evF h0 (Ev.bind hd (evS hi (evS hsp ?_)))
  refine evF (by simp) (Ev.bind hq ?_)
  refine evT rfl (evT rfl (evT rfl (evF (by simp) ?_)))
  cases ok with
  | false => exact evF (by simp) (evT (by simp) (Ev.bind hq (evT rfl (evE (Ev.now _) (by simp)))))
  | true =>
    obtain ⟨hT, hp, hdn⟩ := hok rfl
    obtain ⟨hA, hs⟩ := fin_acc hT
    have hI := fin_inv hT
    rw [← hp] at hA hs hI
    refine evT rfl (Ev.bind (implSent_ev p.order (by omega) (qs.length : Int)) ?_)
    exact fnTalkOnce_l0 qs m p dn hT.q.1 hA hs hlen (by have := hI.ht; have := hI.sl; omega) hdn qs.length 0 (by omega)

end Go.Proofs.Ytnppflmjlnfhpaa.Q
