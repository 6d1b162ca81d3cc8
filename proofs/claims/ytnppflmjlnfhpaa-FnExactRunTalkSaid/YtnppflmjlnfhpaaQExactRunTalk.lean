/- Plain lemmas on what the printed functions compute (seat Ytnppflmjlnfhpaa, module QExactRunTalk). Conditions: each lemma's own. -/
import Derived.Test.YtnppflmjlnfhpaaQt
import Derived.Test.YtnppflmjlnfhpaaPA0
import Derived.Test.YtnppflmjlnfhpaaPA8
import Derived.Test.YtnppflmjlnfhpaaPA9
set_option linter.unusedVariables false
set_option linter.unusedSimpArgs false
namespace Go.Proofs.Ytnppflmjlnfhpaa.Q
open Go Go.RowKit Go.Proofs.Ytnppflmjlnfhpaa.PA Go.Proofs.YtnppflmjlnfhpaaW.PrintWords Go.Proofs.YtnppflmjlnfhpaaW.PrintLast

theorem eqIntS_l0 (a b : List Int) (hl : a.length = b.length) (hb : a.length ≤ 1000000000000) : ∀ d i : Nat, i + d = a.length →
    Ev (fun k => laws_eqIntS.l0 k a b (i : Int)) (decide (a.drop i = b.drop i)) := by
  intro d
  induction d with
  | zero =>
    intro i hi
    refine Ev.step (fun k => by rw [laws_eqIntS.l0]) ?_
    refine evF (by omega) (evE (Ev.now _) ?_)
    rw [List.drop_of_length_le (by omega), List.drop_of_length_le (by omega)]
    simp
  | succ d ih =>
    intro i hi
    have ha : a.drop i = a[i]'(by omega) :: a.drop (i + 1) := List.drop_eq_getElem_cons (by omega)
    have hb' : b.drop i = b[i]'(by omega) :: b.drop (i + 1) := List.drop_eq_getElem_cons (by omega)
    have e : wrap64 ((i : Int) + 1) = ((i + 1 : Nat) : Int) := by rw [w64 (by omega) (by omega)]; omega
    refine Ev.step (fun k => by rw [laws_eqIntS.l0]) ?_
    refine evT (by omega) (evT (by omega) (evT (by omega) ?_))
    rw [rd_at b i (by omega), rd_at a i (by omega), e]
    by_cases h : a[i]'(by omega) = b[i]'(by omega)
    · refine evT h (evE (ih (i + 1) (by omega)) ?_)
      rw [ha, hb']
      exact decide_eq_decide.2 ⟨fun e => by rw [h, e], fun e => (List.cons.inj e).2⟩
    · refine evF h (evE (Ev.now _) ?_)
      rw [ha, hb']
      exact (decide_eq_false (fun e => h (List.cons.inj e).1)).symm
theorem eqIntS_ev (a b : List Int) (hb : a.length ≤ 1000000000000) : Ev (fun k => laws_eqIntS.f k a b) (decide (a = b)) := by
  simp only [laws_eqIntS.f]
  by_cases h : a.length = b.length
  · exact evT (by omega) (evE (eqIntS_l0 a b h hb a.length 0 (by omega)) (by simp))
  · exact evF (by omega) (evE (Ev.now _) (by simp; intro e; exact h (by rw [e])))
/-- m, m + 1, .. -/
def cnt (m : Int) : Nat → List Int
  | 0 => []
  | n + 1 => m :: cnt (m + 1) n
theorem cnt_length (m : Int) (n : Nat) : (cnt m n).length = n := by
  induction n generalizing m with
  | zero => rfl
  | succ n ih => simp [cnt, ih]
theorem markIntS_l0 : ∀ (d : Nat) (pre post : List Int) (m : Int), post.length = d → 0 ≤ m → m + d ≤ 1000000000000 → pre.length + d ≤ 1000000000000 →
    Ev (fun k => laws_markIntS.l0 k (pre ++ post) m (pre.length : Int)) (m + d, pre ++ cnt m d) := by
  intro d
  induction d with
  | zero =>
    intro pre post m hp h0 h1 h2
    obtain rfl : post = [] := List.eq_nil_of_length_eq_zero hp
    refine Ev.step (fun k => by rw [laws_markIntS.l0]) ?_
    refine evF (by simp) (evE (Ev.now _) (by simp [cnt]))
  | succ d ih =>
    intro pre post m hp h0 h1 h2
    match post, hp with
    | x :: post, hp =>
      have hp' : post.length = d := by simpa using hp
      have e : wrap64 ((pre.length : Int) + 1) = (((pre ++ [m]).length : Nat) : Int) := by rw [w64 (by omega) (by omega)]; simp
      have e2 : wrap64 (m + 1) = m + 1 := w64 (by omega) (by omega)
      refine Ev.step (fun k => by rw [laws_markIntS.l0]) ?_
      refine evT (by simp; omega) (evT (by omega) ?_)
      have e3 : (pre ++ x :: post).set ((pre.length : Int) : Int).toNat m = (pre ++ [m]) ++ post := by simp
      rw [e, e2, e3]
      refine evE (ih (pre ++ [m]) post (m + 1) hp' (by omega) (by omega) (by simp; omega)) ?_
      simp [cnt]; omega
theorem markIntS_ev (l : List Int) (m : Int) (h0 : 0 ≤ m) (h1 : m + l.length ≤ 1000000000000) : Ev (fun k => laws_markIntS.f k l m) (m + l.length, cnt m l.length) := by
  simp only [laws_markIntS.f]
  exact markIntS_l0 l.length [] l m rfl h0 h1 (by simp; omega)
theorem heldIntS_l0 : ∀ (d : Nat) (pre : List Int) (m : Int), 0 ≤ m → m + d ≤ 1000000000000 → pre.length + d ≤ 1000000000000 →
    Ev (fun k => laws_heldIntS.l0 k (pre ++ cnt m d) m (pre.length : Int)) (m + d) := by
  intro d
  induction d with
  | zero =>
    intro pre m h0 h1 h2
    refine Ev.step (fun k => by rw [laws_heldIntS.l0]) ?_
    refine evF (by simp [cnt]) (evE (Ev.now _) (by simp))
  | succ d ih =>
    intro pre m h0 h1 h2
    have e : wrap64 ((pre.length : Int) + 1) = (((pre ++ [m]).length : Nat) : Int) := by rw [w64 (by omega) (by omega)]; simp
    have e2 : wrap64 (m + 1) = m + 1 := w64 (by omega) (by omega)
    have e3 : pre ++ cnt m (d + 1) = (pre ++ [m]) ++ cnt (m + 1) d := by simp [cnt]
    refine Ev.step (fun k => by rw [laws_heldIntS.l0]) ?_
    refine evT (by simp [cnt_length]; omega) (evT (by omega) (evT ?_ ?_))
    · rw [rd_at _ _ (by simp [cnt_length])]
      simp [cnt]
    · rw [e, e2, e3]
      exact evE (ih (pre ++ [m]) (m + 1) (by omega) (by omega) (by simp; omega)) (by omega)
theorem heldIntS_ev (n : Nat) (m : Int) (h0 : 0 ≤ m) (h1 : m + n ≤ 1000000000000) : Ev (fun k => laws_heldIntS.f k (cnt m n) m) (m + n) := by
  simp only [laws_heldIntS.f]
  exact heldIntS_l0 n [] m h0 h1 (by simp; omega)

theorem toIntS_l0 (l : List Int) (hl : l.length ≤ 1000000000000) : ∀ (d : Nat) (pre post : List Int), pre.length + d = l.length → post.length = d → pre = l.take pre.length →
    Ev (fun k => laws_toIntS.l0 k l (pre ++ post) (pre.length : Int)) l := by
  intro d
  induction d with
  | zero =>
    intro pre post h1 h2 h3
    obtain rfl : post = [] := List.eq_nil_of_length_eq_zero h2
    refine Ev.step (fun k => by rw [laws_toIntS.l0]) ?_
    refine evF (by omega) (evE (Ev.now _) ?_)
    rw [List.append_nil, h3, List.take_of_length_le (by omega)]
  | succ d ih =>
    intro pre post h1 h2 h3
    match post, h2 with
    | x :: post, h2 =>
      have e : wrap64 ((pre.length : Int) + 1) = (((pre ++ [l[pre.length]'(by omega)]).length : Nat) : Int) := by rw [w64 (by omega) (by omega)]; simp
      have e3 : (pre ++ x :: post).set ((pre.length : Int) : Int).toNat (l[pre.length]'(by omega)) = (pre ++ [l[pre.length]'(by omega)]) ++ post := by simp
      refine Ev.step (fun k => by rw [laws_toIntS.l0]) ?_
      refine evT (by omega) (evT (by omega) (evT (by simp; omega) ?_))
      rw [rd_at l pre.length (by omega), e, e3]
      refine ih (pre ++ [l[pre.length]'(by omega)]) post (by simp; omega) (by simpa using h2) ?_
      rw [List.length_append, List.length_singleton, List.take_succ_eq_append_getElem (by omega), ← h3]
theorem toIntS_ev (l : List Int) (hl : l.length ≤ 1000000000000) : Ev (fun k => laws_toIntS.f k l) l := by
  simp only [laws_toIntS.f]
  exact evT (by omega) (evT (by simp; omega) (toIntS_l0 l hl l.length [] _ (by simp) (by simp) rfl))

theorem q_FnExactRunTalk : laws_FnExactRunTalk.Pure := by
  intro l0 l1 a2 hl1 hl2 hb hl3 hl4 hb2 ha
  refine Ev.rounds ?_
  simp only [laws_FnExactRunTalk.f]
  by_cases h0 : (l0.length : Int) > 1048576
  · exact evT h0 (Ev.now _)
  by_cases h1 : (l1.length : Int) > 1048576
  · exact evF h0 (evT h1 (Ev.now _))
  have hl : l0.length ≤ 1000000000000 := by omega
  have hm : l1.length ≤ 1000000000000 := by omega
  obtain ⟨⟨ro, hi_, sl, _, _, _, _⟩, dn, ok, hi, hsp, hlen, _, _⟩ := talk_ev l0 l1 a2
  simp only at hi hsp hlen
  have hq : Ev (fun k => laws_eqIntS.f k ro ro) true := evE (eqIntS_ev _ _ (by omega)) (by simp)
  have hq0 : Ev (fun k => laws_eqIntS.f k l0 l0) true := evE (eqIntS_ev _ _ (by omega)) (by simp)
  have hq1 : Ev (fun k => laws_eqIntS.f k l1 l1) true := evE (eqIntS_ev _ _ (by omega)) (by simp)
  have hh := heldIntS_ev ro.length 1 (by omega) (by omega)
  have hE : Ev (fun k => laws_eqTalkRun.f k ro hi_ sl dn ro hi_ sl dn) true := by
    simp only [laws_eqTalkRun.f]
    refine Ev.bind hq ?_
    exact evT rfl (evT (by trivial) (evT (by trivial) (evF (by simp) (Ev.now _))))
  have hM : Ev (fun k => laws_markTalkRun.f k ro hi_ sl dn 1) ((1 : Int) + ro.length, cnt 1 ro.length) := by
    simp only [laws_markTalkRun.f]
    exact Ev.bind (markIntS_ev ro 1 (by omega) (by omega)) (Ev.now _)
  have hH : Ev (fun k => laws_heldTalkRun.f k (cnt 1 ro.length) hi_ sl dn 1) ((1 : Int) + ro.length) := by
    simp only [laws_heldTalkRun.f]
    refine Ev.bind hh ?_
    exact evF (by omega) (Ev.now _)
  refine evF h0 (evF h1 (Ev.bind (toIntS_ev l0 hl) (Ev.bind (toIntS_ev l1 hm) (evS hsp (Ev.bind (toIntS_ev l0 hl) (Ev.bind (toIntS_ev l1 hm) (evS hi (Ev.bind hE ?_))))))))
  refine evT rfl ?_
  refine Ev.step (fun k => by rw [laws_FnExactRunTalk.j0]) ?_
  refine evF (by simp) (Ev.bind (toIntS_ev l0 hl) (Ev.bind hq0 ?_))
  refine evT rfl (Ev.bind (toIntS_ev l1 hm) (Ev.bind hq1 ?_))
  refine evT rfl (Ev.bind (markIntS_ev l0 1 (by omega) (by omega)) (Ev.bind (markIntS_ev l1 ((1 : Int) + l0.length) (by omega) (by omega)) ?_))
  refine evF (show ¬ ((1 : Int) + l0.length + l1.length < 0) by omega) (Ev.bind hE ?_)
  refine evT rfl ?_
  refine Ev.step (fun k => by rw [laws_FnExactRunTalk.j1]) ?_
  refine evF (by simp) (Ev.bind hM (Ev.bind hH ?_))
  refine evF (show ¬ ((1 : Int) + ro.length < 0) by omega) (evT rfl ?_)
  refine Ev.bind (toIntS_ev l0 hl) (Ev.bind (toIntS_ev l1 hm) (evS hi (Ev.bind hE ?_)))
  refine evT rfl ?_
  refine Ev.step (fun k => by rw [laws_FnExactRunTalk.j2]) ?_
  refine evF (by simp) (Ev.bind hH ?_)
  exact evF (show ¬ ((1 : Int) + ro.length < 0) by omega) (evT rfl (Ev.now _))

end Go.Proofs.Ytnppflmjlnfhpaa.Q
