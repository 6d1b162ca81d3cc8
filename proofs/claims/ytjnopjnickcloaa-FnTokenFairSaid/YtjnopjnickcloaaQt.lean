/- Plain lemmas on what the printed functions compute (seat Ytjnopjnickcloaa, module Qt). Conditions: each lemma's own. -/
import Derived.Test.YtjnopjnickcloaaQd
import Derived.Test.YtjnopjnickcloaaPA0
import Derived.Test.YtjnopjnickcloaaPA11
import Derived.Test.YtjnopjnickcloaaPA12
import Derived.Test.YtjnopjnickcloaaPA13
set_option linter.unusedVariables false
set_option linter.unusedSimpArgs false
namespace Go.Proofs.Ytjnopjnickcloaa.Q
open Go Go.RowKit Go.Proofs.Ytjnopjnickcloaa.PA Go.Proofs.YtjnopjnickcloaaW.PrintWords Go.Proofs.YtjnopjnickcloaaW.PrintLast

/-! ### a token that goes round -/
theorem rd_getD (l : List Int) (i : Nat) : rd l (i : Int) = l.getD i 0 := by simp [rd]
def tot : List Int → Int
  | [] => 0
  | x :: xs => x + tot xs
def burst (s : Int) (a : Nat) : Nat → List Int → List Int → List Int × List Int
  | 0, l, o => (l, o)
  | d + 1, l, o => if 0 < l.getD a 0 ∧ (o.length : Int) < s then burst s a d (l.set a (l.getD a 0 - 1)) (o ++ [(a : Int)]) else (l, o)
def rnd (s : Int) (h : Nat) : Nat → Nat → List Int → List Int → List Int × List Int
  | 0, _, l, o => (l, o)
  | d + 1, k, l, o => rnd s h d (k + 1) (burst s k h l o).1 (burst s k h l o).2
def Over (s : Int) (l o : List Int) : Prop := tot l ≤ 0 ∨ s ≤ (o.length : Int)
def Good (s : Int) (l o : List Int) : Prop := (∀ x ∈ l, 0 ≤ x ∧ x ≤ 9) ∧ (o.length : Int) ≤ s
inductive Tok (h : Nat) (s : Int) : Nat → List Int → List Int → List Int → List Int → Prop
  | done {a l o} : Over s l o → Tok h s a l o l o
  | step {a l o rl ro} : ¬ Over s l o → Tok h s ((a + 1) % l.length) (burst s a h l o).1 (burst s a h l o).2 rl ro → Tok h s a l o rl ro
theorem tot_bd {l : List Int} (h : ∀ x ∈ l, 0 ≤ x ∧ x ≤ 9) : 0 ≤ tot l ∧ tot l ≤ 9 * l.length := by
  induction l with
  | nil => simp [tot]
  | cons x xs ih =>
    have h1 := ih (fun y hy => h y (List.mem_cons_of_mem _ hy))
    have h2 := h x List.mem_cons_self
    simp only [tot, List.length_cons]
    omega
theorem tot_set : ∀ (l : List Int) (i : Nat) (v : Int), i < l.length → tot (l.set i v) = tot l - l.getD i 0 + v := by
  intro l
  induction l with
  | nil => intro i v h; simp at h
  | cons x xs ih =>
    intro i v h
    match i with
    | 0 => simp [tot]; omega
    | i + 1 =>
      have := ih i v (by simpa using h)
      simp only [List.set_cons_succ, tot, List.getD_cons_succ]
      omega
theorem tot_le {l : List Int} (h : ∀ x ∈ l, 0 ≤ x ∧ x ≤ 9) : ∀ i : Nat, l.getD i 0 ≤ tot l := by
  induction l with
  | nil => intro i; simp [tot]
  | cons x xs ih =>
    intro i
    have h0 : ∀ y ∈ xs, 0 ≤ y ∧ y ≤ 9 := fun y hy => h y (List.mem_cons_of_mem _ hy)
    have h1 := ih h0
    have h2 := h x List.mem_cons_self
    have h3 := tot_bd h0
    match i with
    | 0 => simp only [List.getD_cons_zero, tot]; omega
    | i + 1 => have := h1 i; simp only [List.getD_cons_succ, tot]; omega
theorem tot_zero {l : List Int} (h : ∀ i, i < l.length → l.getD i 0 ≤ 0) : tot l ≤ 0 := by
  induction l with
  | nil => simp [tot]
  | cons x xs ih =>
    have h1 := h 0 (by simp)
    have h2 := ih (fun i hi => by have := h (i + 1) (by simpa using hi); simpa using this)
    simp only [tot]
    simp at h1
    omega
theorem getD_pos {l : List Int} {a : Nat} (h : 0 < l.getD a 0) : a < l.length := by
  rcases Nat.lt_or_ge a l.length with h1 | h1
  · exact h1
  · rw [List.getD_eq_getElem?_getD, List.getElem?_eq_none h1] at h; simp at h
theorem Good.send {s : Int} {l o : List Int} (h : Good s l o) {a : Nat} (h1 : 0 < l.getD a 0) (h2 : (o.length : Int) < s) : Good s (l.set a (l.getD a 0 - 1)) (o ++ [(a : Int)]) := by
  have hm : l.getD a 0 ∈ l := by rw [getD_at l a (getD_pos h1)]; exact List.getElem_mem _
  have hx := h.1 _ hm
  refine ⟨fun x hx' => ?_, by simp; omega⟩
  rcases List.mem_or_eq_of_mem_set hx' with h3 | h3
  · exact h.1 x h3
  · omega
theorem burst_all {s : Int} {a : Nat} : ∀ (d : Nat) (l o : List Int), Good s l o → Good s (burst s a d l o).1 (burst s a d l o).2 ∧ (burst s a d l o).1.length = l.length ∧
    tot (burst s a d l o).1 + ((burst s a d l o).2.length : Int) = tot l + (o.length : Int) ∧ o.length ≤ (burst s a d l o).2.length ∧ ((burst s a d l o).2.length = o.length → burst s a d l o = (l, o)) := by
  intro d
  induction d with
  | zero => intro l o h; exact ⟨h, rfl, rfl, Nat.le_refl _, fun _ => rfl⟩
  | succ d ih =>
    intro l o h
    simp only [burst]
    by_cases hc : 0 < l.getD a 0 ∧ (o.length : Int) < s
    · rw [if_pos hc]
      obtain ⟨g1, g2, g3, g4, g5⟩ := ih _ _ (h.send hc.1 hc.2)
      have hts := tot_set l a (l.getD a 0 - 1) (getD_pos hc.1)
      simp only [List.length_append, List.length_set, List.length_singleton] at g2 g3 g4
      exact ⟨g1, g2, by omega, by omega, fun e => by omega⟩
    · rw [if_neg hc]
      exact ⟨h, rfl, rfl, Nat.le_refl _, fun _ => rfl⟩
theorem burst_over {s : Int} {l o : List Int} (h : Good s l o) (he : Over s l o) (a d : Nat) : burst s a d l o = (l, o) := by
  match d with
  | 0 => rfl
  | d + 1 =>
    rw [burst, if_neg]
    intro hc
    have := tot_le h.1 a
    rcases he with he | he <;> omega
theorem rnd_over {s : Int} {h : Nat} {l o : List Int} (hg : Good s l o) (he : Over s l o) : ∀ (d k : Nat), rnd s h d k l o = (l, o) := by
  intro d
  induction d with
  | zero => intro k; rfl
  | succ d ih => intro k; rw [rnd, burst_over hg he]; exact ih (k + 1)
theorem rnd_all {s : Int} {h : Nat} : ∀ (d k : Nat) (l o : List Int), Good s l o → Good s (rnd s h d k l o).1 (rnd s h d k l o).2 ∧
    tot (rnd s h d k l o).1 + ((rnd s h d k l o).2.length : Int) = tot l + (o.length : Int) ∧ o.length ≤ (rnd s h d k l o).2.length ∧ ((rnd s h d k l o).2.length = o.length → ∀ j, k ≤ j → j < k + d → burst s j h l o = (l, o)) := by
  intro d
  induction d with
  | zero => intro k l o hg; exact ⟨hg, rfl, Nat.le_refl _, fun _ j h1 h2 => by omega⟩
  | succ d ih =>
    intro k l o hg
    obtain ⟨g1, g2, g3, g4, g5⟩ := burst_all (a := k) h l o hg
    obtain ⟨e1, e2, e3, e4⟩ := ih (k + 1) _ _ g1
    simp only [rnd]
    refine ⟨e1, by omega, by omega, fun e j h1 h2 => ?_⟩
    have hid := g5 (by omega)
    rcases Nat.eq_or_lt_of_le h1 with rfl | h3
    · exact hid
    · have := e4 (by omega) j (by omega) (by omega)
      rw [hid] at this
      exact this
theorem tok_chain {s : Int} {h : Nat} {rl ro : List Int} : ∀ (d k : Nat) (l o : List Int), k + (d + 1) = l.length → Good s l o → Tok h s 0 (rnd s h (d + 1) k l o).1 (rnd s h (d + 1) k l o).2 rl ro → Tok h s k l o rl ro := by
  intro d
  induction d with
  | zero =>
    intro k l o hk hg ht
    by_cases he : Over s l o
    · rw [rnd_over hg he] at ht
      cases ht with
      | done _ => exact .done he
      | step h1 _ => exact (h1 he).elim
    · refine .step he ?_
      rw [show k + 1 = l.length by omega, Nat.mod_self]
      exact ht
  | succ d ih =>
    intro k l o hk hg ht
    by_cases he : Over s l o
    · rw [rnd_over hg he] at ht
      cases ht with
      | done _ => exact .done he
      | step h1 _ => exact (h1 he).elim
    · refine .step he ?_
      rw [Nat.mod_eq_of_lt (by omega)]
      obtain ⟨g1, g2, _⟩ := burst_all (a := k) h l o hg
      exact ih (k + 1) _ _ (by omega) g1 ht
theorem tok_ex {s : Int} {h : Nat} (hh : 1 ≤ h) : ∀ (m : Nat) (l o : List Int), Good s l o → (tot l).toNat ≤ m → ∃ rl ro, Tok h s 0 l o rl ro := by
  intro m
  induction m with
  | zero => intro l o hg hm; exact ⟨l, o, .done (.inl (by omega))⟩
  | succ m ih =>
    intro l o hg hm
    by_cases he : Over s l o
    · exact ⟨l, o, .done he⟩
    · have hpos : 0 < tot l := by
        rcases Int.lt_or_le 0 (tot l) with h1 | h1
        · exact h1
        · exact (he (.inl h1)).elim
      have hlt : (o.length : Int) < s := by
        rcases Int.lt_or_le (o.length : Int) s with h1 | h1
        · exact h1
        · exact (he (.inr h1)).elim
      have hlen : 0 < l.length := by
        match l, hpos with
        | [], hpos => simp [tot] at hpos
        | x :: xs, _ => simp
      obtain ⟨n, hn⟩ : ∃ n, l.length = n + 1 := ⟨l.length - 1, by omega⟩
      obtain ⟨e1, e2, e3, e4⟩ := rnd_all (h := h) (n + 1) 0 l o hg
      have hne : (rnd s h (n + 1) 0 l o).2.length ≠ o.length := by
        intro e
        have hz := tot_zero (l := l) (fun i hi => by
          have hb := e4 e i (by omega) (by omega)
          rcases Int.lt_or_le 0 (l.getD i 0) with h1 | h1
          · exfalso
            obtain ⟨h', rfl⟩ : ∃ h', h = h' + 1 := ⟨h - 1, by omega⟩
            rw [burst, if_pos ⟨h1, hlt⟩] at hb
            have := (burst_all (a := i) h' _ _ (hg.send h1 hlt)).2.2.2.1
            rw [hb] at this
            rw [List.length_append, List.length_singleton] at this
            exact absurd this (by show ¬ (o.length + 1 ≤ o.length); omega)
          · exact h1)
        omega
      have hb := tot_bd e1.1
      obtain ⟨rl, ro, ht⟩ := ih _ _ e1 (by omega)
      exact ⟨rl, ro, tok_chain n 0 l o (by omega) hg ht⟩
theorem tok_end {h : Nat} {s : Int} {a : Nat} {l o rl ro : List Int} (ht : Tok h s a l o rl ro) : Good s l o → Good s rl ro ∧ Over s rl ro ∧ tot rl + (ro.length : Int) = tot l + (o.length : Int) := by
  induction ht with
  | done he => intro hg; exact ⟨hg, he, rfl⟩
  | step he _ ih =>
    intro hg
    obtain ⟨g1, g2, g3, _⟩ := burst_all _ _ _ hg
    obtain ⟨i1, i2, i3⟩ := ih g1
    exact ⟨i1, i2, by omega⟩
theorem implBurst (hold : Nat) (s : Int) (hs2 : s ≤ 2000) (a : Nat) {R : List Int × Int × Int × Bool × Bool} : ∀ (d n : Nat) (l o : List Int), n + d = hold → hold ≤ 9 → a < l.length → l.length ≤ 6 → Good s l o →
    Ev (fun k => impl_RunToken.l1 k (hold : Int) s (burst s a d l o).1 (tot (burst s a d l o).1) (((a + 1) % l.length : Nat) : Int) (burst s a d l o).2 0 (((burst s a d l o).2.length : Nat) : Int) false) R →
    Ev (fun k => impl_RunToken.l2 k (hold : Int) s l (tot l) (a : Int) (n : Int) o 0 (o.length : Int) false) R := by
  intro d
  induction d with
  | zero =>
    intro n l o hn hh ha hl hg h
    have e : wrap64 ((a : Int) + 1) = ((a + 1 : Nat) : Int) := by rw [w64 (by omega) (by omega)]; omega
    refine Ev.step (fun k => by rw [impl_RunToken.l2]) ?_
    refine evF (by omega) (evF (by omega) ?_)
    rw [e, show Int.tmod ((a + 1 : Nat) : Int) (l.length : Int) = (((a + 1) % l.length : Nat) : Int) from rfl]
    exact h
  | succ d ih =>
    intro n l o hn hh ha hl hg h
    have e : wrap64 ((a : Int) + 1) = ((a + 1 : Nat) : Int) := by rw [w64 (by omega) (by omega)]; omega
    have e2 : wrap64 ((n : Int) + 1) = ((n + 1 : Nat) : Int) := by rw [w64 (by omega) (by omega)]; omega
    have em : Int.tmod ((a + 1 : Nat) : Int) (l.length : Int) = (((a + 1) % l.length : Nat) : Int) := rfl
    have hb := tot_bd hg.1
    have hle := tot_le hg.1 a
    have hx := hg.1 (l.getD a 0) (by rw [getD_at l a ha]; exact List.getElem_mem _)
    have ho := hg.2
    have c1 : (n : Int) < (hold : Int) := by omega
    have c2 : (0 : Int) ≤ (a : Int) := by omega
    have c3 : (a : Int) < (l.length : Int) := by omega
    have c4 : ¬ ((l.length : Int) = 0) := by omega
    have c5 : o.length < 17592186044416 := by omega
    simp only [burst] at h
    refine Ev.step (fun k => by rw [impl_RunToken.l2]) ?_
    refine evT c1 (evT c2 (evT c3 ?_))
    rw [rd_getD, e, e2, em]
    by_cases h1 : 0 < l.getD a 0
    · by_cases h2 : (o.length : Int) < s
      · rw [if_pos ⟨h1, h2⟩] at h
        refine evT h1 (evT h2 (evT c5 ?_))
        have e3 : wrap64 (tot l - 1) = tot (l.set a (l.getD a 0 - 1)) := by rw [tot_set l a _ ha, w64 (by omega) (by omega)]; omega
        have e4 : wrap64 (l.getD a 0 - 1) = l.getD a 0 - 1 := w64 (by omega) (by omega)
        have e5 : wrap64 ((o.length : Int) + 1) = (((o ++ [(a : Int)]).length : Nat) : Int) := by rw [w64 (by omega) (by omega)]; simp
        rw [e3, e4, e5, Int.toNat_natCast]
        refine ih (n + 1) _ _ (by omega) hh (by simpa using ha) (by simpa using hl) (hg.send h1 h2) ?_
        rw [List.length_set]
        exact h
      · rw [if_neg (fun x => h2 x.2)] at h
        exact evT h1 (evF h2 (evF c4 h))
    · rw [if_neg (fun x => h1 x.1)] at h
      exact evF h1 (evF c4 h)
def tokRes (rl ro : List Int) : List Int × Int × Int × Bool × Bool := (ro, 0, (ro.length : Int), (tot rl == 0), true)
theorem implTok {hold : Nat} {s : Int} (h9 : hold ≤ 9) (hs2 : s ≤ 2000) {a : Nat} {l o rl ro : List Int} (ht : Tok hold s a l o rl ro) : l.length ≤ 6 → (0 < l.length → a < l.length) → Good s l o →
    Ev (fun k => impl_RunToken.l1 k (hold : Int) s l (tot l) (a : Int) o 0 (o.length : Int) false) (tokRes rl ro) := by
  induction ht with
  | @done a l o he =>
    intro hl ha hg
    refine Ev.step (fun k => by rw [impl_RunToken.l1]) ?_
    have fin : Ev (fun k => impl_RunToken.j3 k (hold : Int) s l (tot l) (a : Int) false o 0 (o.length : Int) false) (tokRes l o) := by
      refine Ev.step (fun k => by rw [impl_RunToken.j3]) ?_
      exact evF (by simp) (Ev.now _)
    by_cases h1 : tot l > 0
    · refine evT h1 ?_
      have h2 : ¬ ((o.length : Int) < s) := by rcases he with he | he <;> omega
      rw [decide_eq_false h2]
      exact fin
    · exact evF h1 fin
  | @step a l o rl ro he ht' ih =>
    intro hl ha hg
    have h1 : tot l > 0 := by
      rcases Int.lt_or_le 0 (tot l) with h1 | h1
      · exact h1
      · exact (he (.inl h1)).elim
    have h2 : (o.length : Int) < s := by
      rcases Int.lt_or_le (o.length : Int) s with h1 | h1
      · exact h1
      · exact (he (.inr h1)).elim
    have hlen : 0 < l.length := by
      match l, h1 with
      | [], h1 => simp [tot] at h1
      | x :: xs, _ => simp
    obtain ⟨g1, g2, _⟩ := burst_all (a := a) hold l o hg
    refine Ev.step (fun k => by rw [impl_RunToken.l1]) ?_
    refine evT h1 ?_
    rw [decide_eq_true h2]
    refine Ev.step (fun k => by rw [impl_RunToken.j3]) ?_
    refine evT rfl ?_
    exact implBurst hold s hs2 a hold 0 l o (by omega) h9 (ha hlen) hl hg (ih (by omega) (fun _ => by rw [g2]; exact Nat.mod_lt _ hlen) g1)
theorem specBurst (hold : Nat) (s : Int) (hs2 : s ≤ 2000) (a : Nat) {R : List Int × Int × Int × Bool × Bool} : ∀ (d n : Nat) (l o : List Int), n + d = hold → hold ≤ 9 → a < l.length → l.length ≤ 6 → Good s l o →
    Ev (fun k => spec_RunToken.l1 k (hold : Int) s (burst s a d l o).1 ((a + 1 : Nat) : Int) (burst s a d l o).2 0 (((burst s a d l o).2.length : Nat) : Int) false) R →
    Ev (fun k => spec_RunToken.l2 k (hold : Int) s l (a : Int) (n : Int) o 0 (o.length : Int) false) R := by
  intro d
  induction d with
  | zero =>
    intro n l o hn hh ha hl hg h
    have e : wrap64 ((a : Int) + 1) = ((a + 1 : Nat) : Int) := by rw [w64 (by omega) (by omega)]; omega
    refine Ev.step (fun k => by rw [spec_RunToken.l2]) ?_
    refine evF (by omega) ?_
    rw [e]
    exact h
  | succ d ih =>
    intro n l o hn hh ha hl hg h
    have e : wrap64 ((a : Int) + 1) = ((a + 1 : Nat) : Int) := by rw [w64 (by omega) (by omega)]; omega
    have e2 : wrap64 ((n : Int) + 1) = ((n + 1 : Nat) : Int) := by rw [w64 (by omega) (by omega)]; omega
    have hx := hg.1 (l.getD a 0) (by rw [getD_at l a ha]; exact List.getElem_mem _)
    have ho := hg.2
    have c1 : (n : Int) < (hold : Int) := by omega
    have c2 : (0 : Int) ≤ (a : Int) := by omega
    have c3 : (a : Int) < (l.length : Int) := by omega
    have c5 : o.length < 17592186044416 := by omega
    simp only [burst] at h
    refine Ev.step (fun k => by rw [spec_RunToken.l2]) ?_
    refine evT c1 (evT c2 (evT c3 ?_))
    rw [rd_getD, e, e2]
    by_cases h1 : 0 < l.getD a 0
    · by_cases h2 : (o.length : Int) < s
      · rw [if_pos ⟨h1, h2⟩] at h
        refine evT h1 (evT h2 (evT c5 ?_))
        have e4 : wrap64 (l.getD a 0 - 1) = l.getD a 0 - 1 := w64 (by omega) (by omega)
        have e5 : wrap64 ((o.length : Int) + 1) = (((o ++ [(a : Int)]).length : Nat) : Int) := by rw [w64 (by omega) (by omega)]; simp
        rw [e4, e5, Int.toNat_natCast]
        exact ih (n + 1) _ _ (by omega) hh (by simpa using ha) (by simpa using hl) (hg.send h1 h2) h
      · rw [if_neg (fun x => h2 x.2)] at h
        exact evT h1 (evF h2 h)
    · rw [if_neg (fun x => h1 x.1)] at h
      exact evF h1 h
theorem l9Sum_l0 (l : List Int) (hv : ∀ x ∈ l, 0 ≤ x ∧ x ≤ 9) (hl : l.length ≤ 1000) : ∀ (d i : Nat) (acc : Int), i + d = l.length → 0 ≤ acc → acc ≤ 9 * i →
    Ev (fun k => spec_l9Sum.l0 k l acc (i : Int)) (acc + tot (l.drop i)) := by
  intro d
  induction d with
  | zero =>
    intro i acc hi h0 h1
    refine Ev.step (fun k => by rw [spec_l9Sum.l0]) ?_
    refine evF (by omega) (evE (Ev.now _) ?_)
    rw [List.drop_of_length_le (by omega)]; simp [tot]
  | succ d ih =>
    intro i acc hi h0 h1
    have e : wrap64 ((i : Int) + 1) = ((i + 1 : Nat) : Int) := by rw [w64 (by omega) (by omega)]; omega
    have hx := hv (l[i]'(by omega)) (List.getElem_mem _)
    refine Ev.step (fun k => by rw [spec_l9Sum.l0]) ?_
    refine evT (by omega) (evT (by omega) ?_)
    rw [rd_at l i (by omega), e, w64 (x := acc + l[i]'(by omega)) (by omega) (by omega), List.drop_eq_getElem_cons (by omega : i < l.length)]
    exact evE (ih (i + 1) _ (by omega) (by omega) (by omega)) (by simp only [tot]; omega)
theorem l9Sum_ev (l : List Int) (hv : ∀ x ∈ l, 0 ≤ x ∧ x ≤ 9) (hl : l.length ≤ 1000) : Ev (fun k => spec_l9Sum.f k l) (tot l) := by
  simp only [spec_l9Sum.f]
  exact evE (l9Sum_l0 l hv hl l.length 0 0 (by omega) (by omega) (by omega)) (by simp)

end Go.Proofs.Ytjnopjnickcloaa.Q
