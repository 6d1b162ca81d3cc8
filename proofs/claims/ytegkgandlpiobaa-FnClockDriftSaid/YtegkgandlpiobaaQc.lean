/- Plain lemmas on what the printed functions compute (seat Ytegkgandlpiobaa, module Qc). Conditions: each lemma's own. -/
import Derived.Test.YtegkgandlpiobaaQb
import Derived.Test.YtegkgandlpiobaaPA0
import Derived.Test.YtegkgandlpiobaaPA1
import Derived.Test.YtegkgandlpiobaaPA2
set_option linter.unusedVariables false
set_option linter.unusedSimpArgs false
namespace Go.Proofs.Ytegkgandlpiobaa.Q
open Go Go.RowKit Go.Proofs.Ytegkgandlpiobaa.PA Go.Proofs.YtegkgandlpiobaaW.PrintWords Go.Proofs.YtegkgandlpiobaaW.PrintLast

/-! ### runs of equal ticks -/
def incLast (xs : List Int) : List Int := xs.set (xs.length - 1) (xs.getD (xs.length - 1) 0 + 1)
/-- the runs of the first i ticks -/
def runsTo (l : List Int) : Nat → List Int
  | 0 => []
  | i + 1 => if 0 < i ∧ l.getD (i - 1) 0 = l.getD i 0 then incLast (runsTo l i) else runsTo l i ++ [1]
def runs (l : List Int) : List Int := runsTo l l.length
/-- rs are the runs of l from place s to place e -/
def IsRuns (l : List Int) : Nat → List Int → Nat → Prop
  | s, [], e => s = e
  | s, n :: rs, e => 1 ≤ n ∧ (∀ j, j < n.toNat → l.getD (s + j) 0 = l.getD s 0) ∧ (0 < s → l.getD (s - 1) 0 ≠ l.getD s 0) ∧ IsRuns l (s + n.toNat) rs e
theorem incLast_snoc (rs : List Int) (n : Int) : incLast (rs ++ [n]) = rs ++ [n + 1] := by
  unfold incLast
  have e : (rs ++ [n]).length - 1 = rs.length := by simp
  rw [e]
  simp [List.getD_eq_getElem?_getD]
theorem IsRuns.le {l : List Int} : ∀ {rs : List Int} {s e : Nat}, IsRuns l s rs e → s ≤ e := by
  intro rs
  induction rs with
  | nil => intro s e h; exact Nat.le_of_eq h
  | cons n rs ih => intro s e h; have := ih h.2.2.2; omega
theorem IsRuns.snoc {l : List Int} : ∀ {rs : List Int} {s e : Nat}, IsRuns l s rs e → (0 < e → l.getD (e - 1) 0 ≠ l.getD e 0) → IsRuns l s (rs ++ [1]) (e + 1) := by
  intro rs
  induction rs with
  | nil =>
    intro s e h hne
    obtain rfl : s = e := h
    refine ⟨by omega, fun j hj => ?_, hne, rfl⟩
    have : j = 0 := by have : (1 : Int).toNat = 1 := rfl; omega
    subst this; rfl
  | cons n rs ih => intro s e h hne; exact ⟨h.1, h.2.1, h.2.2.1, ih h.2.2.2 hne⟩
theorem IsRuns.grow {l : List Int} {n : Int} : ∀ {rs : List Int} {s e : Nat}, IsRuns l s (rs ++ [n]) e → l.getD (e - 1) 0 = l.getD e 0 → IsRuns l s (rs ++ [n + 1]) (e + 1) := by
  intro rs
  induction rs with
  | nil =>
    intro s e h he
    obtain ⟨h1, h2, h3, h4⟩ := h
    have h4' : s + n.toNat = e := h4
    have e1 : (n + 1).toNat = n.toNat + 1 := by omega
    refine ⟨by omega, fun j hj => ?_, h3, ?_⟩
    · rw [e1] at hj
      rcases Nat.lt_or_ge j n.toNat with h5 | h5
      · exact h2 j h5
      · have : s + j = e := by omega
        rw [this, ← he]
        have h6 := h2 (n.toNat - 1) (by omega)
        rw [← h6]
        congr 1
        omega
    · show s + (n + 1).toNat = e + 1
      omega
  | cons m rs ih => intro s e h he; exact ⟨h.1, h.2.1, h.2.2.1, ih h.2.2.2 he⟩
theorem runsTo_form (l : List Int) : ∀ i : Nat, (i = 0 ∧ runsTo l i = []) ∨ ∃ rs n, runsTo l i = rs ++ [n] := by
  intro i
  induction i with
  | zero => exact .inl ⟨rfl, rfl⟩
  | succ i ih =>
    refine .inr ?_
    simp only [runsTo]
    by_cases h : 0 < i ∧ l.getD (i - 1) 0 = l.getD i 0
    · rw [if_pos h]
      rcases ih with ⟨h0, _⟩ | ⟨rs, n, hr⟩
      · omega
      · exact ⟨rs, n + 1, by rw [hr, incLast_snoc]⟩
    · rw [if_neg h]
      exact ⟨_, _, rfl⟩
theorem runsTo_is (l : List Int) : ∀ i : Nat, IsRuns l 0 (runsTo l i) i := by
  intro i
  induction i with
  | zero => exact rfl
  | succ i ih =>
    simp only [runsTo]
    by_cases h : 0 < i ∧ l.getD (i - 1) 0 = l.getD i 0
    · rw [if_pos h]
      rcases runsTo_form l i with ⟨h0, _⟩ | ⟨rs, n, hr⟩
      · omega
      · rw [hr] at ih ⊢
        rw [incLast_snoc]
        exact ih.grow h.2
    · rw [if_neg h]
      exact ih.snoc (fun h0 he => h ⟨h0, he⟩)
theorem runs_is (l : List Int) : IsRuns l 0 (runs l) l.length := runsTo_is l l.length
theorem IsRuns.len {l : List Int} : ∀ {rs : List Int} {s e : Nat}, IsRuns l s rs e → rs.length ≤ e - s ∧ ∀ n ∈ rs, 1 ≤ n ∧ n ≤ ((e - s : Nat) : Int) := by
  intro rs
  induction rs with
  | nil => intro s e h; exact ⟨Nat.zero_le _, fun n hn => by simp at hn⟩
  | cons m rs ih =>
    intro s e h
    obtain ⟨h1, h2⟩ := ih h.2.2.2
    have h3 := h.1
    have h4 := h.2.2.2.le
    refine ⟨by simp; omega, fun n hn => ?_⟩
    rcases List.mem_cons.1 hn with rfl | hn
    · omega
    · have := h2 n hn; omega
theorem runsTo_len (l : List Int) (i : Nat) : (runsTo l i).length ≤ i ∧ ∀ n ∈ runsTo l i, 1 ≤ n ∧ n ≤ (i : Int) := by
  have := (runsTo_is l i).len
  simpa using this
theorem runs_unique {l : List Int} : ∀ {rs rs' : List Int} {s e : Nat}, IsRuns l s rs e → IsRuns l s rs' e → rs = rs' := by
  intro rs
  induction rs with
  | nil =>
    intro rs' s e h h'
    obtain rfl : s = e := h
    match rs', h' with
    | [], _ => rfl
    | n :: rs', h' => have := h'.2.2.2.le; have := h'.1; omega
  | cons n rs ih =>
    intro rs' s e h h'
    match rs', h' with
    | [], h' => have h0 : s = e := h'; have := h.2.2.2.le; have := h.1; omega
    | m :: rs', h' =>
      obtain ⟨a1, a2, a3, a4⟩ := h
      obtain ⟨b1, b2, b3, b4⟩ := h'
      have key : ∀ (x y : Int) (xs : List Int), 1 ≤ x → x < y → IsRuns l (s + x.toNat) xs e → s + y.toNat ≤ e → (∀ j, j < y.toNat → l.getD (s + j) 0 = l.getD s 0) → False := by
        intro x y xs hx hxy hr hye hy
        match xs, hr with
        | [], hr => have h0 : s + x.toNat = e := hr; omega
        | z :: xs, hr =>
          refine hr.2.2.1 (by omega) ?_
          rw [hy x.toNat (by omega)]
          have := hy (x.toNat - 1) (by omega)
          rw [← this]
          congr 1
          omega
      have hnm : n = m := by
        rcases Int.lt_trichotomy n m with h1 | h1 | h1
        · exact (key n m rs a1 h1 a4 b4.le b2).elim
        · exact h1
        · exact (key m n rs' b1 h1 b4 a4.le a2).elim
      subst hnm
      rw [ih a4 b4]
theorem getD_at (l : List Int) (i : Nat) (h : i < l.length) : l.getD i 0 = l[i] := by simp [List.getD_eq_getElem?_getD, h]
theorem rd_getD (l : List Int) (i : Nat) : rd l (i : Int) = l.getD i 0 := by simp [rd]
theorem implRuns_l0 (l : List Int) (hl : l.length ≤ 1000000000000) : ∀ (d i : Nat), i + d = l.length →
    Ev (fun k => impl_RunsOf.l0 k l (runsTo l i) l (l.length : Int) (i : Int)) (runs l) := by
  intro d
  induction d with
  | zero =>
    intro i hi
    obtain rfl : i = l.length := by omega
    refine Ev.step (fun k => by rw [impl_RunsOf.l0]) ?_
    exact evF (by omega) (Ev.now _)
  | succ d ih =>
    intro i hi
    have e : wrap64 ((i : Int) + 1) = ((i + 1 : Nat) : Int) := by rw [w64 (by omega) (by omega)]; omega
    have hn := ih (i + 1) (by omega)
    simp only [runsTo] at hn
    have hlen := runsTo_len l i
    refine Ev.step (fun k => by rw [impl_RunsOf.l0]) ?_
    refine evT (by omega) (evT (by omega) (evT (by omega) ?_))
    rw [e]
    by_cases h0 : 0 < i
    · have e2 : wrap64 ((i : Int) - 1) = ((i - 1 : Nat) : Int) := by rw [w64 (by omega) (by omega)]; omega
      refine evT (by omega) ?_
      rw [e2, rd_getD, rd_getD]
      refine evT (by omega) (evT (by omega) ?_)
      by_cases h1 : l.getD (i - 1) 0 = l.getD i 0
      · rw [if_pos ⟨h0, h1⟩] at hn
        refine evT h1 ?_
        rcases runsTo_form l i with ⟨h2, _⟩ | ⟨rs, n, hr⟩
        · omega
        · rw [hr] at hn hlen ⊢
          have hle : (rs ++ [n]).length = rs.length + 1 := by simp
          have e3 : wrap64 ((((rs ++ [n]).length : Nat) : Int) - 1) = (rs.length : Int) := by rw [hle, w64 (by omega) (by omega)]; omega
          rw [e3]
          refine evT (by omega) (evT (by omega) ?_)
          have e4 : rd (rs ++ [n]) (rs.length : Int) = n := by rw [rd_at _ rs.length (by omega)]; simp
          have hb := hlen.2 n (by simp)
          rw [e4, w64 (x := n + 1) (by omega) (by omega)]
          rw [incLast_snoc] at hn
          have e5 : (rs ++ [n]).set ((rs.length : Int) : Int).toNat (n + 1) = rs ++ [n + 1] := by simp
          rw [e5]
          exact hn
      · rw [if_neg (fun x => h1 x.2)] at hn
        exact evF h1 (evT (by omega) hn)
    · rw [if_neg (fun x => h0 x.1)] at hn
      exact evF (by omega) (evT (by omega) hn)
theorem implRuns_ev (l : List Int) (hl : l.length ≤ 1000000000000) : Ev (fun k => impl_RunsOf.f k l) (runs l) := by
  simp only [impl_RunsOf.f]
  exact implRuns_l0 l hl l.length 0 (by omega)
theorem specRuns_l0 (l : List Int) (hl : l.length ≤ 1000000000000) : ∀ (d i : Nat), i + d = l.length →
    Ev (fun k => spec_RunsOf.l0 k l (runsTo l i) (i : Int)) (runs l) := by
  intro d
  induction d with
  | zero =>
    intro i hi
    obtain rfl : i = l.length := by omega
    refine Ev.step (fun k => by rw [spec_RunsOf.l0]) ?_
    exact evF (by omega) (Ev.now _)
  | succ d ih =>
    intro i hi
    have e : wrap64 ((i : Int) + 1) = ((i + 1 : Nat) : Int) := by rw [w64 (by omega) (by omega)]; omega
    have hn := ih (i + 1) (by omega)
    simp only [runsTo] at hn
    have hlen := runsTo_len l i
    refine Ev.step (fun k => by rw [spec_RunsOf.l0]) ?_
    refine evT (by omega) ?_
    rw [e]
    by_cases h0 : 0 < i
    · have e2 : wrap64 ((i : Int) - 1) = ((i - 1 : Nat) : Int) := by rw [w64 (by omega) (by omega)]; omega
      refine evT (by omega) (evT (by omega) ?_)
      rw [e2, rd_getD, rd_getD]
      refine evT (by omega) (evT (by omega) ?_)
      by_cases h1 : l.getD (i - 1) 0 = l.getD i 0
      · rw [if_pos ⟨h0, h1⟩] at hn
        refine evT h1.symm ?_
        rcases runsTo_form l i with ⟨h2, _⟩ | ⟨rs, n, hr⟩
        · omega
        · rw [hr] at hn hlen ⊢
          have hle : (rs ++ [n]).length = rs.length + 1 := by simp
          have e3 : wrap64 ((((rs ++ [n]).length : Nat) : Int) - 1) = (rs.length : Int) := by rw [hle, w64 (by omega) (by omega)]; omega
          rw [e3]
          refine evT (by omega) (evT (by omega) ?_)
          have e4 : rd (rs ++ [n]) (rs.length : Int) = n := by rw [rd_at _ rs.length (by omega)]; simp
          have hb := hlen.2 n (by simp)
          rw [e4, w64 (x := n + 1) (by omega) (by omega)]
          rw [incLast_snoc] at hn
          have e5 : (rs ++ [n]).set ((rs.length : Int) : Int).toNat (n + 1) = rs ++ [n + 1] := by simp
          rw [e5]
          exact hn
      · rw [if_neg (fun x => h1 x.2)] at hn
        exact evF (fun x => h1 x.symm) (evT (by omega) hn)
    · rw [if_neg (fun x => h0 x.1)] at hn
      exact evF (by omega) (evT (by omega) hn)
theorem specRuns_ev (l : List Int) (hl : l.length ≤ 1000000000000) : Ev (fun k => spec_RunsOf.f k l) (runs l) := by
  simp only [spec_RunsOf.f]
  exact specRuns_l0 l hl l.length 0 (by omega)

end Go.Proofs.Ytegkgandlpiobaa.Q
