/- Plain lemmas on what the printed functions compute (seat Ytecdngoknkmncaa, module QExactApartBound). Conditions: each lemma's own. -/
import Derived.Test.YtecdngoknkmncaaQb
import Derived.Test.YtecdngoknkmncaaPA0
import Derived.Test.YtecdngoknkmncaaPA10
import Derived.Test.YtecdngoknkmncaaPA3
set_option linter.unusedVariables false
set_option linter.unusedSimpArgs false
namespace Go.Proofs.Ytecdngoknkmncaa.Q
open Go Go.RowKit Go.Proofs.Ytecdngoknkmncaa.PA Go.Proofs.YtecdngoknkmncaaW.PrintWords Go.Proofs.YtecdngoknkmncaaW.PrintLast

theorem eqIntS_l0 (a b : List Int) (hl : a.length = b.length) (hb : a.length ≤ 1000000000000) : ∀ d i : Nat, i + d = a.length →
    Ev (fun k => laws_eqIntS.l0 k a b (i : Int)) (decide (a.drop i = b.drop i)) := by
  intro d
  induction d with
  | zero =>
    intro i hi
    refine Ev.step (fun k => by rw [laws_eqIntS.l0]) ?_
    refine evF (by omega) (evE (Ev.now _) ?_)
    rw [List.drop_of_length_le (by omega), List.drop_of_length_le (by omega)]
    simp
  | succ d ih =>
    intro i hi
    have ha : a.drop i = a[i]'(by omega) :: a.drop (i + 1) := List.drop_eq_getElem_cons (by omega)
    have hb' : b.drop i = b[i]'(by omega) :: b.drop (i + 1) := List.drop_eq_getElem_cons (by omega)
    have e : wrap64 ((i : Int) + 1) = ((i + 1 : Nat) : Int) := by rw [w64 (by omega) (by omega)]; omega
    refine Ev.step (fun k => by rw [laws_eqIntS.l0]) ?_
    refine evT (by omega) (evT (by omega) (evT (by omega) ?_))
    rw [rd_at b i (by omega), rd_at a i (by omega), e]
    by_cases h : a[i]'(by omega) = b[i]'(by omega)
    · refine evT h (evE (ih (i + 1) (by omega)) ?_)
      rw [ha, hb']
      exact decide_eq_decide.2 ⟨fun e => by rw [h, e], fun e => (List.cons.inj e).2⟩
    · refine evF h (evE (Ev.now _) ?_)
      rw [ha, hb']
      exact (decide_eq_false (fun e => h (List.cons.inj e).1)).symm
theorem eqIntS_ev (a b : List Int) (hb : a.length ≤ 1000000000000) : Ev (fun k => laws_eqIntS.f k a b) (decide (a = b)) := by
  simp only [laws_eqIntS.f]
  by_cases h : a.length = b.length
  · exact evT (by omega) (evE (eqIntS_l0 a b h hb a.length 0 (by omega)) (by simp))
  · exact evF (by omega) (evE (Ev.now _) (by simp; intro e; exact h (by rw [e])))

theorem toIntS_l0 (l : List Int) (hl : l.length ≤ 1000000000000) : ∀ (d : Nat) (pre post : List Int), pre.length + d = l.length → post.length = d → pre = l.take pre.length →
    Ev (fun k => laws_toIntS.l0 k l (pre ++ post) (pre.length : Int)) l := by
  intro d
  induction d with
  | zero =>
    intro pre post h1 h2 h3
    obtain rfl : post = [] := List.eq_nil_of_length_eq_zero h2
    refine Ev.step (fun k => by rw [laws_toIntS.l0]) ?_
    refine evF (by omega) (evE (Ev.now _) ?_)
    rw [List.append_nil, h3, List.take_of_length_le (by omega)]
  | succ d ih =>
    intro pre post h1 h2 h3
    match post, h2 with
    | x :: post, h2 =>
      have e : wrap64 ((pre.length : Int) + 1) = (((pre ++ [l[pre.length]'(by omega)]).length : Nat) : Int) := by rw [w64 (by omega) (by omega)]; simp
      have e3 : (pre ++ x :: post).set ((pre.length : Int) : Int).toNat (l[pre.length]'(by omega)) = (pre ++ [l[pre.length]'(by omega)]) ++ post := by simp
      refine Ev.step (fun k => by rw [laws_toIntS.l0]) ?_
      refine evT (by omega) (evT (by omega) (evT (by simp; omega) ?_))
      rw [rd_at l pre.length (by omega), e, e3]
      refine ih (pre ++ [l[pre.length]'(by omega)]) post (by simp; omega) (by simpa using h2) ?_
      rw [List.length_append, List.length_singleton, List.take_succ_eq_append_getElem (by omega), ← h3]
theorem toIntS_ev (l : List Int) (hl : l.length ≤ 1000000000000) : Ev (fun k => laws_toIntS.f k l) l := by
  simp only [laws_toIntS.f]
  exact evT (by omega) (evT (by simp; omega) (toIntS_l0 l hl l.length [] _ (by simp) (by simp) rfl))

theorem q_FnExactApartBound : laws_FnExactApartBound.Pure := by
  intro l a b hl1 hl2 hb ha1 hb1
  refine Ev.rounds ?_
  simp only [laws_FnExactApartBound.f]
  by_cases h0 : (l.length : Int) > 1048576
  · exact evT h0 (Ev.now _)
  have hl : l.length ≤ 1000000000000 := by omega
  have ht := toIntS_ev l hl
  have hq : Ev (fun k => laws_eqIntS.f k l l) true := evE (eqIntS_ev l l hl) (by simp)
  refine evF h0 (Ev.bind ht (Ev.bind (specApart_ev l hl a b) (Ev.bind ht (evS (implApart_eq l a b) (evT rfl (Ev.bind ht (Ev.bind hq (evT rfl (Ev.now _)))))))))

end Go.Proofs.Ytecdngoknkmncaa.Q
