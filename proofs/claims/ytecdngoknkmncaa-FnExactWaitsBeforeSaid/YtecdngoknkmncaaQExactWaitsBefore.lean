/- Plain lemmas on what the printed functions compute (seat Ytecdngoknkmncaa, module QExactWaitsBefore). Conditions: each lemma's own. -/
import Derived.Test.YtecdngoknkmncaaQd
import Derived.Test.YtecdngoknkmncaaPA0
import Derived.Test.YtecdngoknkmncaaPA13
import Derived.Test.YtecdngoknkmncaaPA3
import Derived.Test.YtecdngoknkmncaaPA7
set_option linter.unusedVariables false
set_option linter.unusedSimpArgs false
namespace Go.Proofs.Ytecdngoknkmncaa.Q
open Go Go.RowKit Go.Proofs.Ytecdngoknkmncaa.PA Go.Proofs.YtecdngoknkmncaaW.PrintWords Go.Proofs.YtecdngoknkmncaaW.PrintLast

theorem eqIntS_l0 (a b : List Int) (hl : a.length = b.length) (hb : a.length ≤ 1000000000000) : ∀ d i : Nat, i + d = a.length →
    Ev (fun k => laws_eqIntS.l0 k a b (i : Int)) (decide (a.drop i = b.drop i)) := by
  intro d
  induction d with
  | zero =>
    intro i hi
    refine Ev.step (fun k => by rw [laws_eqIntS.l0]) ?_
    refine evF (by omega) (evE (Ev.now _) ?_)
    rw [List.drop_of_length_le (by omega), List.drop_of_length_le (by omega)]
    simp
  | succ d ih =>
    intro i hi
    have ha : a.drop i = a[i]'(by omega) :: a.drop (i + 1) := List.drop_eq_getElem_cons (by omega)
    have hb' : b.drop i = b[i]'(by omega) :: b.drop (i + 1) := List.drop_eq_getElem_cons (by omega)
    have e : wrap64 ((i : Int) + 1) = ((i + 1 : Nat) : Int) := by rw [w64 (by omega) (by omega)]; omega
    refine Ev.step (fun k => by rw [laws_eqIntS.l0]) ?_
    refine evT (by omega) (evT (by omega) (evT (by omega) ?_))
    rw [rd_at b i (by omega), rd_at a i (by omega), e]
    by_cases h : a[i]'(by omega) = b[i]'(by omega)
    · refine evT h (evE (ih (i + 1) (by omega)) ?_)
      rw [ha, hb']
      exact decide_eq_decide.2 ⟨fun e => by rw [h, e], fun e => (List.cons.inj e).2⟩
    · refine evF h (evE (Ev.now _) ?_)
      rw [ha, hb']
      exact (decide_eq_false (fun e => h (List.cons.inj e).1)).symm
theorem eqIntS_ev (a b : List Int) (hb : a.length ≤ 1000000000000) : Ev (fun k => laws_eqIntS.f k a b) (decide (a = b)) := by
  simp only [laws_eqIntS.f]
  by_cases h : a.length = b.length
  · exact evT (by omega) (evE (eqIntS_l0 a b h hb a.length 0 (by omega)) (by simp))
  · exact evF (by omega) (evE (Ev.now _) (by simp; intro e; exact h (by rw [e])))

theorem toIntS_l0 (l : List Int) (hl : l.length ≤ 1000000000000) : ∀ (d : Nat) (pre post : List Int), pre.length + d = l.length → post.length = d → pre = l.take pre.length →
    Ev (fun k => laws_toIntS.l0 k l (pre ++ post) (pre.length : Int)) l := by
  intro d
  induction d with
  | zero =>
    intro pre post h1 h2 h3
    obtain rfl : post = [] := List.eq_nil_of_length_eq_zero h2
    refine Ev.step (fun k => by rw [laws_toIntS.l0]) ?_
    refine evF (by omega) (evE (Ev.now _) ?_)
    rw [List.append_nil, h3, List.take_of_length_le (by omega)]
  | succ d ih =>
    intro pre post h1 h2 h3
    match post, h2 with
    | x :: post, h2 =>
      have e : wrap64 ((pre.length : Int) + 1) = (((pre ++ [l[pre.length]'(by omega)]).length : Nat) : Int) := by rw [w64 (by omega) (by omega)]; simp
      have e3 : (pre ++ x :: post).set ((pre.length : Int) : Int).toNat (l[pre.length]'(by omega)) = (pre ++ [l[pre.length]'(by omega)]) ++ post := by simp
      refine Ev.step (fun k => by rw [laws_toIntS.l0]) ?_
      refine evT (by omega) (evT (by omega) (evT (by simp; omega) ?_))
      rw [rd_at l pre.length (by omega), e, e3]
      refine ih (pre ++ [l[pre.length]'(by omega)]) post (by simp; omega) (by simpa using h2) ?_
      rw [List.length_append, List.length_singleton, List.take_succ_eq_append_getElem (by omega), ← h3]
theorem toIntS_ev (l : List Int) (hl : l.length ≤ 1000000000000) : Ev (fun k => laws_toIntS.f k l) l := by
  simp only [laws_toIntS.f]
  exact evT (by omega) (evT (by simp; omega) (toIntS_l0 l hl l.length [] _ (by simp) (by simp) rfl))

/-! ### lists of jobs: taken over, compared, marked -/
def c52 (x : S52) : S50 := ⟨x.f0, x.f1⟩
theorem toJobS_l0 (l : List S52) (hl : l.length ≤ 1048576) : ∀ (d i : Nat) (s : List S50), i + d = l.length → s.length = l.length → (∀ j, j < i → s[j]? = (l.map c52)[j]?) →
    Ev (fun k => laws_toJobS.l0 k l s (i : Int)) (l.map c52) := by
  intro d
  induction d with
  | zero =>
    intro i s hi hs hj
    refine Ev.step (fun k => by rw [laws_toJobS.l0]) ?_
    refine evF (by omega) (evE (Ev.now _) ?_)
    refine List.ext_getElem? fun j => ?_
    by_cases h : j < i
    · exact hj j h
    · rw [List.getElem?_eq_none (by omega), List.getElem?_eq_none (by rw [List.length_map]; omega)]
  | succ d ih =>
    intro i s hi hs hj
    have e : wrap64 ((i : Int) + 1) = ((i + 1 : Nat) : Int) := by rw [w64 (by omega) (by omega)]; omega
    have hil : i < l.length := by omega
    have hx : rd_T52 l (i : Int) = l[i] := by simp [rd_T52, List.getD_eq_getElem?_getD, hil]
    refine Ev.step (fun k => by rw [laws_toJobS.l0]) ?_
    refine evT (by omega) (evT (by omega) (evS rfl (evT (by omega) ?_)))
    rw [hx, e, Int.toNat_natCast]
    refine ih (i + 1) (s.set i (c52 l[i])) (by omega) (by rw [List.length_set, hs]) (fun j hj2 => ?_)
    rw [List.getElem?_set]
    by_cases e2 : i = j
    · subst e2
      rw [if_pos rfl, if_pos (by omega)]
      simp [hil]
    · rw [if_neg e2]; exact hj j (by omega)
theorem toJobS_ev (l : List S52) (hl : l.length ≤ 1048576) : Ev (fun k => laws_toJobS.f k l) (l.map c52) := by
  simp only [laws_toJobS.f]
  refine evT (by omega) (evT (by omega) ?_)
  exact toJobS_l0 l hl l.length 0 _ (by omega) (by simp) (fun j hj => by omega)
theorem eqJobS_l0 (l : List S50) (hl : l.length ≤ 1048576) : ∀ (d i : Nat), i + d = l.length → Ev (fun k => laws_eqJobS.l0 k l l (i : Int)) true := by
  intro d
  induction d with
  | zero =>
    intro i hi
    refine Ev.step (fun k => by rw [laws_eqJobS.l0]) ?_
    exact evF (by omega) (Ev.now _)
  | succ d ih =>
    intro i hi
    have e : wrap64 ((i : Int) + 1) = ((i + 1 : Nat) : Int) := by rw [w64 (by omega) (by omega)]; omega
    refine Ev.step (fun k => by rw [laws_eqJobS.l0]) ?_
    refine evT (by omega) (evT (by omega) (evT (by omega) (evS (a := true) (by unfold laws_eqJob.f; rw [if_pos rfl, if_pos rfl]) (evT rfl ?_))))
    rw [e]
    exact ih (i + 1) (by omega)
theorem eqJobS_ev (l : List S50) (hl : l.length ≤ 1048576) : Ev (fun k => laws_eqJobS.f k l l) true := by
  simp only [laws_eqJobS.f]
  exact evT (by trivial) (eqJobS_l0 l hl l.length 0 (by omega))
theorem sz_some (l : List S52) (h : l.length ≤ 1048576) : ∃ v : Int, laws_szJobS.f l 1048576 = some v ∧ ¬ v < 0 := by
  refine ⟨wrap64 (1048576 - (l.length : Int)), ?_, ?_⟩
  · unfold laws_szJobS.f
    rw [if_neg (by rw [w64 (by omega) (by omega)]; omega)]
  · rw [w64 (by omega) (by omega)]; omega
theorem sz_none (l : List S52) (h : ¬ l.length ≤ 1048576) (hm : l.length ≤ maxLen) : ∃ v : Int, laws_szJobS.f l 1048576 = some v ∧ v < 0 := by
  refine ⟨-1, ?_, by omega⟩
  unfold laws_szJobS.f
  unfold maxLen at hm
  rw [if_pos (by rw [w64 (by omega) (by omega)]; omega)]

theorem q_FnExactWaitsBefore : ∀ (l : List S52) (hm : l.length ≤ maxLen) (hw : ∀ x ∈ l, (Lit.int .i64 x.f0).wf = true ∧ (Lit.int .i64 x.f1).wf = true) (l1 : List Int) (hm1 : l1.length ≤ maxLen) (hw1 : ∀ x ∈ l1, (Lit.int .i64 x).wf = true) (a2 : Int) (w2 : (Lit.int .i64 a2).wf = true),
    ∃ k, laws_FnExactWaitsBefore.f k l l1 a2 = some true := by
  intro l hm hw w hm0 hw0 a w2
  refine Ev.rounds ?_
  simp only [laws_FnExactWaitsBefore.f]
  by_cases h0 : (w.length : Int) > 1048576
  · exact evT h0 (Ev.now _)
  refine evF h0 ?_
  by_cases h : l.length ≤ 1048576
  · obtain ⟨v, hv, hv2⟩ := sz_some l h
    have ht := toJobS_ev l h
    have hml : (l.map c52).length ≤ 1048576 := by simpa using h
    have hl : w.length ≤ 1000000000000 := by omega
    have ht0 := toIntS_ev w hl
    have hq : Ev (fun k => laws_eqIntS.f k w w) true := evE (eqIntS_ev w w hl) (by simp)
    obtain ⟨u, hi, hs, _⟩ := waits_ev (l.map c52) (by omega) w hl a
    refine evS hv (evF hv2 (Ev.bind ht (Ev.bind ht0 (Ev.bind hs (Ev.bind ht (Ev.bind ht0 (Ev.bind hi (evT rfl ?_))))))))
    exact Ev.bind ht (Ev.bind (eqJobS_ev _ hml) (evT rfl (Ev.bind ht0 (Ev.bind hq (evT rfl (Ev.now _))))))
  · obtain ⟨v, hv, hv2⟩ := sz_none l h hm
    exact evS hv (evT hv2 (Ev.now _))

end Go.Proofs.Ytecdngoknkmncaa.Q
