/- Plain lemmas on what the printed functions compute (seat Ytdkmgcijhaokkaa, module Qs). Conditions: each lemma's own. -/
import Derived.Test.YtdkmgcijhaokkaaQa
import Derived.Test.YtdkmgcijhaokkaaPA0
import Derived.Test.YtdkmgcijhaokkaaPA1
import Derived.Test.YtdkmgcijhaokkaaPA2
set_option linter.unusedVariables false
set_option linter.unusedSimpArgs false
namespace Go.Proofs.Ytdkmgcijhaokkaa.Q
open Go Go.RowKit Go.Proofs.Ytdkmgcijhaokkaa.PA Go.Proofs.YtdkmgcijhaokkaaW.PrintWords Go.Proofs.YtdkmgcijhaokkaaW.PrintLast

/-! ### frames spread over members -/
def fl (h : S34) : Int := flow h.f0 h.f1
def mem (up : List Bool) (l : List S34) (i : Nat) : Int := member up (fl (l.getD i z34))
/-- the frames below n that go over m -/
def rowTo (up : List Bool) (l : List S34) (m : Int) : Nat → List Int
  | 0 => []
  | n + 1 => rowTo up l m n ++ (if mem up l n = m then [(n : Int)] else [])
theorem rowTo_len (up : List Bool) (l : List S34) (m : Int) : ∀ n, (rowTo up l m n).length ≤ n := by
  intro n
  induction n with
  | zero => exact Nat.le_refl _
  | succ n ih =>
    show (rowTo up l m n ++ _).length ≤ n + 1
    rw [List.length_append]
    split <;> simp <;> omega
def rowsTo (up : List Bool) (l : List S34) (n : Nat) : List (List Int) := (List.range up.length).map fun (m : Nat) => rowTo up l (m : Int) n
theorem rowsTo_len (up : List Bool) (l : List S34) (n : Nat) : (rowsTo up l n).length = up.length := by simp [rowsTo]
theorem rowsTo_at (up : List Bool) (l : List S34) (n m : Nat) (h : m < up.length) : (rowsTo up l n).getD m [] = rowTo up l (m : Int) n := by
  simp [rowsTo, List.getD_eq_getElem?_getD, h]
theorem rowsTo_none {up : List Bool} {l : List S34} {n : Nat} (h : mem up l n = -1) : rowsTo up l (n + 1) = rowsTo up l n := by
  unfold rowsTo
  refine List.map_congr_left fun m _ => ?_
  show rowTo up l m n ++ _ = _
  rw [if_neg (by omega), List.append_nil]
theorem rowsTo_some {up : List Bool} {l : List S34} {n m : Nat} (h : mem up l n = (m : Int)) : rowsTo up l (n + 1) = (rowsTo up l n).set m (rowTo up l (m : Int) n ++ [(n : Int)]) := by
  unfold rowsTo
  refine List.ext_getElem? fun j => ?_
  rw [List.getElem?_set]
  by_cases e : m = j
  · subst e
    by_cases hm : m < up.length
    · have e2 : rowTo up l (m : Int) (n + 1) = rowTo up l (m : Int) n ++ [(n : Int)] := by
        show rowTo up l m n ++ _ = _
        rw [if_pos h]
      simp [hm, e2]
    · simp [hm]
  · rw [if_neg e, List.getElem?_map, List.getElem?_map]
    by_cases hj : j < up.length
    · have e2 : rowTo up l (j : Int) (n + 1) = rowTo up l (j : Int) n := by
        show rowTo up l j n ++ _ = _
        rw [if_neg (by omega), List.append_nil]
      simp [hj, e2]
    · simp [hj]
def Fls (l : List S34) : Prop := ∀ h ∈ l, 0 ≤ fl h
def spreadOk (up : List Bool) (l : List S34) : Bool := decide (isB up ∧ l.length ≤ 60) && l.all fun h => decide (0 ≤ fl h)
def spread (up : List Bool) (l : List S34) : List (List Int) := if spreadOk up l = true then rowsTo up l l.length else []
theorem rd34_at (l : List S34) (i : Nat) (h : i < l.length) : rd_T34 l (i : Int) = l.getD i z34 := by
  simp [rd_T34]
theorem implSpread_l0 (up : List Bool) (hB : isB up) (l : List S34) (hl : l.length ≤ 60) : ∀ d i : Nat, i + d = l.length →
    Ev (fun k => impl_SpreadFrames.l0 k up (rowsTo up l i) l (l.length : Int) (i : Int)) (if (l.drop i).all (fun h => decide (0 ≤ fl h)) = true then rowsTo up l l.length else []) := by
  have hu8 := hB.2
  intro d
  induction d with
  | zero =>
    intro i hi
    obtain rfl : i = l.length := by omega
    rw [List.drop_of_length_le (Nat.le_refl _), List.all_nil, if_pos rfl]
    refine Ev.step (fun k => by rw [impl_SpreadFrames.l0]) ?_
    exact evF (by omega) (Ev.now _)
  | succ d ih =>
    intro i hi
    have hil : i < l.length := by omega
    have hn := ih (i + 1) (by omega)
    have hg : l.getD i z34 = l[i] := by simp [List.getD_eq_getElem?_getD, hil]
    rw [List.drop_eq_getElem_cons hil, List.all_cons]
    have key : ∀ {v : List (List Int)}, Ev (fun k => if flow l[i].f0 l[i].f1 < 0 then some ([] : List (List Int)) else ((impl_MemberFor.f k up (flow l[i].f0 l[i].f1)).bind fun t192 => (if t192 ≥ 0 then (if 0 ≤ t192 then (if t192 < ((rowsTo up l i).length : Int) then (if ((rowsTo up l i).getD t192.toNat []).length < 17592186044416 then (impl_SpreadFrames.l0 k up ((rowsTo up l i).set (t192 : Int).toNat (((rowsTo up l i).getD t192.toNat []) ++ [(i : Int)])) l (l.length : Int) ((i + 1 : Nat) : Int)) else (none)) else (none)) else (none)) else (impl_SpreadFrames.l0 k up (rowsTo up l i) l (l.length : Int) ((i + 1 : Nat) : Int))))) v → Ev (fun k => impl_SpreadFrames.l0 k up (rowsTo up l i) l (l.length : Int) (i : Int)) v := by
      intro v hv
      refine Ev.step (fun k => by rw [impl_SpreadFrames.l0]) ?_
      refine evT (by omega) (evT (by omega) (evT (by omega) ?_))
      rw [rd34_at l i hil, hg, show wrap64 ((i : Int) + 1) = ((i + 1 : Nat) : Int) by rw [w64 (by omega) (by omega)]; omega]
      exact evS (implFlow_eq _ _) hv
    by_cases h : 0 ≤ fl l[i]
    · rw [decide_eq_true h, Bool.true_and]
      have hf : ¬ flow l[i].f0 l[i].f1 < 0 := by unfold fl at h; omega
      refine key (evF hf (Ev.bind (implMember_ev _ _) ?_))
      have hm : mem up l i = member up (flow l[i].f0 l[i].f1) := by unfold mem fl; rw [hg]
      obtain ⟨b1, b2, b3⟩ := member_bd up (flow l[i].f0 l[i].f1)
      rw [← hm] at b1 b2 b3 ⊢
      by_cases h2 : mem up l i ≥ 0
      · obtain ⟨m, hm2⟩ := Int.eq_ofNat_of_zero_le h2
        have hmu : m < up.length := by omega
        rw [rowsTo_some hm2] at hn
        rw [hm2]
        have hlen := rowTo_len up l (m : Int) i
        refine evT (by omega) (evT (by omega) (evT (by rw [rowsTo_len]; omega) ?_))
        rw [Int.toNat_natCast, rowsTo_at up l i m hmu]
        exact evT (by omega) hn
      · rw [rowsTo_none (by omega)] at hn
        exact evF h2 hn
    · rw [decide_eq_false h, Bool.false_and, if_neg (by decide)]
      exact key (evT (by unfold fl at h; omega) (Ev.now _))
theorem implSpread_ev (up : List Bool) (l : List S34) : Ev (fun k => impl_SpreadFrames.f k up l) (spread up l) := by
  simp only [impl_SpreadFrames.f]
  have bad : Ev (fun k => impl_SpreadFrames.j0 k up l true) ([] : List (List Int)) := by
    refine Ev.step (fun k => by rw [impl_SpreadFrames.j0]) ?_
    exact evT rfl (Ev.now _)
  refine evS (isBundle_eq up) ?_
  have e : spread up l = if spreadOk up l = true then rowsTo up l l.length else [] := rfl
  by_cases hB : isB up
  · refine evT (decide_eq_true hB) ?_
    by_cases hl : l.length ≤ 60
    · rw [decide_eq_false (show ¬ ((l.length : Int) > 60) by omega)]
      have hr := implSpread_l0 up hB l hl l.length 0 (by omega)
      have e0 : rowsTo up l 0 = List.replicate up.length [] := by
        unfold rowsTo
        refine List.ext_getElem (by simp) fun j h1 h2 => by simp [rowTo]
      have ho : spreadOk up l = l.all fun h => decide (0 ≤ fl h) := by unfold spreadOk; rw [decide_eq_true ⟨hB, hl⟩, Bool.true_and]
      rw [e, ho]
      rw [List.drop_zero, e0] at hr
      refine Ev.step (fun k => by rw [impl_SpreadFrames.j0]) ?_
      have := hB.2
      exact evF (by decide) (evT (by omega) (evT (by omega) hr))
    · rw [decide_eq_true (show (l.length : Int) > 60 by omega), e, if_neg (by unfold spreadOk; rw [decide_eq_false (fun c => hl c.2), Bool.false_and]; decide)]
      exact bad
  · rw [e, if_neg (by unfold spreadOk; rw [decide_eq_false (fun c => hB c.1), Bool.false_and]; decide)]
    exact evF (by simp only [decide_eq_true_eq]; exact hB) bad
theorem specSpread_l2 (up : List Bool) (hB : isB up) (l : List S34) (hl : l.length ≤ 60) (x5 : List (List Int)) (hx : x5.length ≤ 8) (m : Int) {R : List (List Int)}
    (hn : Ev (fun k => spec_SpreadFrames.l1 k up l (x5 ++ [rowTo up l m l.length]) (wrap64 (m + 1))) R) : ∀ d i : Nat, i + d = l.length →
    Ev (fun k => spec_SpreadFrames.l2 k up l x5 m (rowTo up l m i) (i : Int)) R := by
  intro d
  induction d with
  | zero =>
    intro i hi
    obtain rfl : i = l.length := by omega
    refine Ev.step (fun k => by rw [spec_SpreadFrames.l2]) ?_
    exact evF (by omega) (evT (by omega) hn)
  | succ d ih =>
    intro i hi
    have hil : i < l.length := by omega
    have hr := ih (i + 1) (by omega)
    have hg : l.getD i z34 = l[i] := by simp [List.getD_eq_getElem?_getD, hil]
    have hlen := rowTo_len up l m i
    have hm : mem up l i = member up (flow l[i].f0 l[i].f1) := by unfold mem fl; rw [hg]
    have e2 : rowTo up l m (i + 1) = rowTo up l m i ++ (if mem up l i = m then [(i : Int)] else []) := rfl
    rw [e2] at hr
    refine Ev.step (fun k => by rw [spec_SpreadFrames.l2]) ?_
    refine evT (by omega) (evT (by omega) ?_)
    rw [rd34_at l i hil, hg, show wrap64 ((i : Int) + 1) = ((i + 1 : Nat) : Int) by rw [w64 (by omega) (by omega)]; omega]
    refine evS (a := flow l[i].f0 l[i].f1) (by rw [flowOf_eq]; exact implFlow_eq _ _) (Ev.bind (specMember_ev _ _) ?_)
    rw [← hm]
    by_cases c : mem up l i = m
    · rw [if_pos c] at hr
      exact evT c (evT (by omega) hr)
    · rw [if_neg c, List.append_nil] at hr
      exact evF c hr
theorem specSpread_l1 (up : List Bool) (hB : isB up) (l : List S34) (hl : l.length ≤ 60) : ∀ d m : Nat, m + d = up.length →
    Ev (fun k => spec_SpreadFrames.l1 k up l ((List.range m).map fun (m : Nat) => rowTo up l (m : Int) l.length) (m : Int)) (rowsTo up l l.length) := by
  have hu8 := hB.2
  intro d
  induction d with
  | zero =>
    intro m hm
    obtain rfl : m = up.length := by omega
    refine Ev.step (fun k => by rw [spec_SpreadFrames.l1]) ?_
    exact evF (by omega) (Ev.now _)
  | succ d ih =>
    intro m hm
    have hr := ih (m + 1) (by omega)
    rw [List.range_succ, List.map_append] at hr
    refine Ev.step (fun k => by rw [spec_SpreadFrames.l1]) ?_
    refine evT (by omega) (specSpread_l2 up hB l hl _ (by simp; omega) (m : Int) ?_ l.length 0 (by omega))
    rw [show wrap64 ((m : Int) + 1) = ((m + 1 : Nat) : Int) by rw [w64 (by omega) (by omega)]; omega]
    exact hr
theorem specSpread_l0 (up : List Bool) (l : List S34) (hl : l.length ≤ 1000000000000) : ∀ d i : Nat, i + d = l.length →
    Ev (fun k => spec_SpreadFrames.l0 k up l [] (i : Int)) (if (decide (isB up ∧ l.length ≤ 60) && (l.drop i).all fun h => decide (0 ≤ fl h)) = true then rowsTo up l l.length else []) := by
  intro d
  induction d with
  | zero =>
    intro i hi
    rw [List.drop_of_length_le (by omega), List.all_nil, Bool.and_true]
    refine Ev.step (fun k => by rw [spec_SpreadFrames.l0]) ?_
    refine evF (by omega) (evS (l11Bundle_eq up) ?_)
    have bad : Ev (fun k => spec_SpreadFrames.j1 k up l [] true) ([] : List (List Int)) := by
      refine Ev.step (fun k => by rw [spec_SpreadFrames.j1]) ?_
      exact evT rfl (Ev.now _)
    by_cases hB : isB up
    · refine evT (decide_eq_true hB) ?_
      by_cases h6 : l.length ≤ 60
      · rw [decide_eq_true (⟨hB, h6⟩ : isB up ∧ l.length ≤ 60), if_pos rfl, decide_eq_false (show ¬ ((l.length : Int) > 60) by omega)]
        refine Ev.step (fun k => by rw [spec_SpreadFrames.j1]) ?_
        exact evF (by decide) (specSpread_l1 up hB l h6 up.length 0 (by omega))
      · rw [decide_eq_false (show ¬ (isB up ∧ l.length ≤ 60) from fun c => h6 c.2), if_neg (by decide), decide_eq_true (show (l.length : Int) > 60 by omega)]
        exact bad
    · rw [decide_eq_false (show ¬ (isB up ∧ l.length ≤ 60) from fun c => hB c.1), if_neg (by decide)]
      exact evF (by simp only [decide_eq_true_eq]; exact hB) bad
  | succ d ih =>
    intro i hi
    have hil : i < l.length := by omega
    have hr := ih (i + 1) (by omega)
    have hg : l.getD i z34 = l[i] := by simp [List.getD_eq_getElem?_getD, hil]
    rw [List.drop_eq_getElem_cons hil, List.all_cons]
    refine Ev.step (fun k => by rw [spec_SpreadFrames.l0]) ?_
    refine evT (by omega) (evT (by omega) ?_)
    rw [rd34_at l i hil, hg, show wrap64 ((i : Int) + 1) = ((i + 1 : Nat) : Int) by rw [w64 (by omega) (by omega)]; omega]
    refine evS (a := flow l[i].f0 l[i].f1) (by rw [flowOf_eq]; exact implFlow_eq _ _) ?_
    by_cases h : 0 ≤ fl l[i]
    · rw [decide_eq_true h, Bool.true_and]
      exact evF (by unfold fl at h; omega) hr
    · rw [decide_eq_false h, Bool.false_and, Bool.and_false, if_neg (by decide)]
      exact evT (by unfold fl at h; omega) (Ev.now _)
theorem specSpread_ev (up : List Bool) (l : List S34) (hl : l.length ≤ 1000000000000) : Ev (fun k => spec_SpreadFrames.f k up l) (spread up l) := by
  simp only [spec_SpreadFrames.f]
  exact evE (specSpread_l0 up l hl l.length 0 (by omega)) (by rw [List.drop_zero]; rfl)

end Go.Proofs.Ytdkmgcijhaokkaa.Q
