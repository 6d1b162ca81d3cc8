/- Plain lemmas on what the printed functions compute (seat Ytnagdcigoaeicaa, module QExactServedBy). Conditions: each lemma's own. -/
import Derived.Test.YtnagdcigoaeicaaQs
import Derived.Test.YtnagdcigoaeicaaPA0
import Derived.Test.YtnagdcigoaeicaaPA7
import Derived.Test.YtnagdcigoaeicaaPA8
set_option linter.unusedVariables false
set_option linter.unusedSimpArgs false
namespace Go.Proofs.Ytnagdcigoaeicaa.Q
open Go Go.RowKit Go.Proofs.Ytnagdcigoaeicaa.PA Go.Proofs.YtnagdcigoaeicaaW.PrintWords Go.Proofs.YtnagdcigoaeicaaW.PrintLast

theorem eqIntS_l0 (a b : List Int) (hl : a.length = b.length) (hb : a.length ≤ 1000000000000) : ∀ d i : Nat, i + d = a.length →
    Ev (fun k => laws_eqIntS.l0 k a b (i : Int)) (decide (a.drop i = b.drop i)) := by
  intro d
  induction d with
  | zero =>
    intro i hi
    refine Ev.step (fun k => by rw [laws_eqIntS.l0]) ?_
    refine evF (by omega) (evE (Ev.now _) ?_)
    rw [List.drop_of_length_le (by omega), List.drop_of_length_le (by omega)]
    simp
  | succ d ih =>
    intro i hi
    have ha : a.drop i = a[i]'(by omega) :: a.drop (i + 1) := List.drop_eq_getElem_cons (by omega)
    have hb' : b.drop i = b[i]'(by omega) :: b.drop (i + 1) := List.drop_eq_getElem_cons (by omega)
    have e : wrap64 ((i : Int) + 1) = ((i + 1 : Nat) : Int) := by rw [w64 (by omega) (by omega)]; omega
    refine Ev.step (fun k => by rw [laws_eqIntS.l0]) ?_
    refine evT (by omega) (evT (by omega) (evT (by omega) ?_))
    rw [rd_at b i (by omega), rd_at a i (by omega), e]
    by_cases h : a[i]'(by omega) = b[i]'(by omega)
    · refine evT h (evE (ih (i + 1) (by omega)) ?_)
      rw [ha, hb']
      exact decide_eq_decide.2 ⟨fun e => by rw [h, e], fun e => (List.cons.inj e).2⟩
    · refine evF h (evE (Ev.now _) ?_)
      rw [ha, hb']
      exact (decide_eq_false (fun e => h (List.cons.inj e).1)).symm
theorem eqIntS_ev (a b : List Int) (hb : a.length ≤ 1000000000000) : Ev (fun k => laws_eqIntS.f k a b) (decide (a = b)) := by
  simp only [laws_eqIntS.f]
  by_cases h : a.length = b.length
  · exact evT (by omega) (evE (eqIntS_l0 a b h hb a.length 0 (by omega)) (by simp))
  · exact evF (by omega) (evE (Ev.now _) (by simp; intro e; exact h (by rw [e])))
/-- m, m + 1, .. -/
def cnt (m : Int) : Nat → List Int
  | 0 => []
  | n + 1 => m :: cnt (m + 1) n
theorem cnt_length (m : Int) (n : Nat) : (cnt m n).length = n := by
  induction n generalizing m with
  | zero => rfl
  | succ n ih => simp [cnt, ih]
theorem markIntS_l0 : ∀ (d : Nat) (pre post : List Int) (m : Int), post.length = d → 0 ≤ m → m + d ≤ 1000000000000 → pre.length + d ≤ 1000000000000 →
    Ev (fun k => laws_markIntS.l0 k (pre ++ post) m (pre.length : Int)) (m + d, pre ++ cnt m d) := by
  intro d
  induction d with
  | zero =>
    intro pre post m hp h0 h1 h2
    obtain rfl : post = [] := List.eq_nil_of_length_eq_zero hp
    refine Ev.step (fun k => by rw [laws_markIntS.l0]) ?_
    refine evF (by simp) (evE (Ev.now _) (by simp [cnt]))
  | succ d ih =>
    intro pre post m hp h0 h1 h2
    match post, hp with
    | x :: post, hp =>
      have hp' : post.length = d := by simpa using hp
      have e : wrap64 ((pre.length : Int) + 1) = (((pre ++ [m]).length : Nat) : Int) := by rw [w64 (by omega) (by omega)]; simp
      have e2 : wrap64 (m + 1) = m + 1 := w64 (by omega) (by omega)
      refine Ev.step (fun k => by rw [laws_markIntS.l0]) ?_
      refine evT (by simp; omega) (evT (by omega) ?_)
      have e3 : (pre ++ x :: post).set ((pre.length : Int) : Int).toNat m = (pre ++ [m]) ++ post := by simp
      rw [e, e2, e3]
      refine evE (ih (pre ++ [m]) post (m + 1) hp' (by omega) (by omega) (by simp; omega)) ?_
      simp [cnt]; omega
theorem markIntS_ev (l : List Int) (m : Int) (h0 : 0 ≤ m) (h1 : m + l.length ≤ 1000000000000) : Ev (fun k => laws_markIntS.f k l m) (m + l.length, cnt m l.length) := by
  simp only [laws_markIntS.f]
  exact markIntS_l0 l.length [] l m rfl h0 h1 (by simp; omega)
theorem heldIntS_l0 : ∀ (d : Nat) (pre : List Int) (m : Int), 0 ≤ m → m + d ≤ 1000000000000 → pre.length + d ≤ 1000000000000 →
    Ev (fun k => laws_heldIntS.l0 k (pre ++ cnt m d) m (pre.length : Int)) (m + d) := by
  intro d
  induction d with
  | zero =>
    intro pre m h0 h1 h2
    refine Ev.step (fun k => by rw [laws_heldIntS.l0]) ?_
    refine evF (by simp [cnt]) (evE (Ev.now _) (by simp))
  | succ d ih =>
    intro pre m h0 h1 h2
    have e : wrap64 ((pre.length : Int) + 1) = (((pre ++ [m]).length : Nat) : Int) := by rw [w64 (by omega) (by omega)]; simp
    have e2 : wrap64 (m + 1) = m + 1 := w64 (by omega) (by omega)
    have e3 : pre ++ cnt m (d + 1) = (pre ++ [m]) ++ cnt (m + 1) d := by simp [cnt]
    refine Ev.step (fun k => by rw [laws_heldIntS.l0]) ?_
    refine evT (by simp [cnt_length]; omega) (evT (by omega) (evT ?_ ?_))
    · rw [rd_at _ _ (by simp [cnt_length])]
      simp [cnt]
    · rw [e, e2, e3]
      exact evE (ih (pre ++ [m]) (m + 1) (by omega) (by omega) (by simp; omega)) (by omega)
theorem heldIntS_ev (n : Nat) (m : Int) (h0 : 0 ≤ m) (h1 : m + n ≤ 1000000000000) : Ev (fun k => laws_heldIntS.f k (cnt m n) m) (m + n) := by
  simp only [laws_heldIntS.f]
  exact heldIntS_l0 n [] m h0 h1 (by simp; omega)

theorem toIntS_l0 (l : List Int) (hl : l.length ≤ 1000000000000) : ∀ (d : Nat) (pre post : List Int), pre.length + d = l.length → post.length = d → pre = l.take pre.length →
    Ev (fun k => laws_toIntS.l0 k l (pre ++ post) (pre.length : Int)) l := by
  intro d
  induction d with
  | zero =>
    intro pre post h1 h2 h3
    obtain rfl : post = [] := List.eq_nil_of_length_eq_zero h2
    refine Ev.step (fun k => by rw [laws_toIntS.l0]) ?_
    refine evF (by omega) (evE (Ev.now _) ?_)
    rw [List.append_nil, h3, List.take_of_length_le (by omega)]
  | succ d ih =>
    intro pre post h1 h2 h3
    match post, h2 with
    | x :: post, h2 =>
      have e : wrap64 ((pre.length : Int) + 1) = (((pre ++ [l[pre.length]'(by omega)]).length : Nat) : Int) := by rw [w64 (by omega) (by omega)]; simp
      have e3 : (pre ++ x :: post).set ((pre.length : Int) : Int).toNat (l[pre.length]'(by omega)) = (pre ++ [l[pre.length]'(by omega)]) ++ post := by simp
      refine Ev.step (fun k => by rw [laws_toIntS.l0]) ?_
      refine evT (by omega) (evT (by omega) (evT (by simp; omega) ?_))
      rw [rd_at l pre.length (by omega), e, e3]
      refine ih (pre ++ [l[pre.length]'(by omega)]) post (by simp; omega) (by simpa using h2) ?_
      rw [List.length_append, List.length_singleton, List.take_succ_eq_append_getElem (by omega), ← h3]
theorem toIntS_ev (l : List Int) (hl : l.length ≤ 1000000000000) : Ev (fun k => laws_toIntS.f k l) l := by
  simp only [laws_toIntS.f]
  exact evT (by omega) (evT (by simp; omega) (toIntS_l0 l hl l.length [] _ (by simp) (by simp) rfl))

/-! ### lists of jobs: taken over, compared, marked -/
def c52 (x : S56) : S30 := ⟨x.f0, x.f1⟩
theorem toJobS_l0 (l : List S56) (hl : l.length ≤ 1048576) : ∀ (d i : Nat) (s : List S30), i + d = l.length → s.length = l.length → (∀ j, j < i → s[j]? = (l.map c52)[j]?) →
    Ev (fun k => laws_toJobS.l0 k l s (i : Int)) (l.map c52) := by
  intro d
  induction d with
  | zero =>
    intro i s hi hs hj
    refine Ev.step (fun k => by rw [laws_toJobS.l0]) ?_
    refine evF (by omega) (evE (Ev.now _) ?_)
    refine List.ext_getElem? fun j => ?_
    by_cases h : j < i
    · exact hj j h
    · rw [List.getElem?_eq_none (by omega), List.getElem?_eq_none (by rw [List.length_map]; omega)]
  | succ d ih =>
    intro i s hi hs hj
    have e : wrap64 ((i : Int) + 1) = ((i + 1 : Nat) : Int) := by rw [w64 (by omega) (by omega)]; omega
    have hil : i < l.length := by omega
    have hx : rd_T56 l (i : Int) = l[i] := by simp [rd_T56, List.getD_eq_getElem?_getD, hil]
    refine Ev.step (fun k => by rw [laws_toJobS.l0]) ?_
    refine evT (by omega) (evT (by omega) (evS rfl (evT (by omega) ?_)))
    rw [hx, e, Int.toNat_natCast]
    refine ih (i + 1) (s.set i (c52 l[i])) (by omega) (by rw [List.length_set, hs]) (fun j hj2 => ?_)
    rw [List.getElem?_set]
    by_cases e2 : i = j
    · subst e2
      rw [if_pos rfl, if_pos (by omega)]
      simp [hil]
    · rw [if_neg e2]; exact hj j (by omega)
theorem toJobS_ev (l : List S56) (hl : l.length ≤ 1048576) : Ev (fun k => laws_toJobS.f k l) (l.map c52) := by
  simp only [laws_toJobS.f]
  refine evT (by omega) (evT (by omega) ?_)
  exact toJobS_l0 l hl l.length 0 _ (by omega) (by simp) (fun j hj => by omega)
theorem eqJobS_l0 (l : List S30) (hl : l.length ≤ 1048576) : ∀ (d i : Nat), i + d = l.length → Ev (fun k => laws_eqJobS.l0 k l l (i : Int)) true := by
  intro d
  induction d with
  | zero =>
    intro i hi
    refine Ev.step (fun k => by rw [laws_eqJobS.l0]) ?_
    exact evF (by omega) (Ev.now _)
  | succ d ih =>
    intro i hi
    have e : wrap64 ((i : Int) + 1) = ((i + 1 : Nat) : Int) := by rw [w64 (by omega) (by omega)]; omega
    refine Ev.step (fun k => by rw [laws_eqJobS.l0]) ?_
    refine evT (by omega) (evT (by omega) (evT (by omega) (evS (a := true) (by unfold laws_eqJob.f; rw [if_pos rfl, if_pos rfl]) (evT rfl ?_))))
    rw [e]
    exact ih (i + 1) (by omega)
theorem eqJobS_ev (l : List S30) (hl : l.length ≤ 1048576) : Ev (fun k => laws_eqJobS.f k l l) true := by
  simp only [laws_eqJobS.f]
  exact evT (by trivial) (eqJobS_l0 l hl l.length 0 (by omega))
theorem sz_some (l : List S56) (h : l.length ≤ 1048576) : ∃ v : Int, laws_szJobS.f l 1048576 = some v ∧ ¬ v < 0 := by
  refine ⟨wrap64 (1048576 - (l.length : Int)), ?_, ?_⟩
  · unfold laws_szJobS.f
    rw [if_neg (by rw [w64 (by omega) (by omega)]; omega)]
  · rw [w64 (by omega) (by omega)]; omega
theorem sz_none (l : List S56) (h : ¬ l.length ≤ 1048576) (hm : l.length ≤ maxLen) : ∃ v : Int, laws_szJobS.f l 1048576 = some v ∧ v < 0 := by
  refine ⟨-1, ?_, by omega⟩
  unfold laws_szJobS.f
  unfold maxLen at hm
  rw [if_pos (by rw [w64 (by omega) (by omega)]; omega)]

theorem markJobS_l0 : ∀ (d i : Nat) (js : List S30) (m : Int), i + d = js.length → 0 ≤ m → m + 2 * d ≤ 1000000000000 → js.length ≤ 1048576 → ∃ ys, Ev (fun k => laws_markJobS.l0 k js m (i : Int)) (m + 2 * d, ys) := by
  intro d
  induction d with
  | zero =>
    intro i js m hi h0 h1 h2
    refine ⟨js, Ev.step (fun k => by rw [laws_markJobS.l0]) ?_⟩
    exact evF (by omega) (evE (Ev.now _) (by simp))
  | succ d ih =>
    intro i js m hi h0 h1 h2
    have e : wrap64 ((i : Int) + 1) = ((i + 1 : Nat) : Int) := by rw [w64 (by omega) (by omega)]; omega
    have e2 : wrap64 (m + 1) = m + 1 := w64 (by omega) (by omega)
    have e3 : wrap64 (m + 1 + 1) = m + 2 := by rw [w64 (by omega) (by omega)]; omega
    obtain ⟨ys, hy⟩ := ih (i + 1) ((js.set i (⟨m, (rd_T30 js (i : Int)).f1⟩ : S30)).set i (⟨(rd_T30 (js.set i (⟨m, (rd_T30 js (i : Int)).f1⟩ : S30)) (i : Int)).f0, m + 1⟩ : S30)) (m + 2) (by rw [List.length_set, List.length_set]; omega) (by omega) (by omega) (by rw [List.length_set, List.length_set]; exact h2)
    refine ⟨ys, Ev.step (fun k => by rw [laws_markJobS.l0]) ?_⟩
    refine evT (by omega) (evT (by omega) (evS rfl ?_))
    rw [e, e2, e3, Int.toNat_natCast]
    refine evE hy ?_
    congr 1
    omega
theorem markJobS_ev (js : List S30) (m : Int) (h0 : 0 ≤ m) (h1 : m ≤ 10000000) (h2 : js.length ≤ 1048576) : ∃ ys, Ev (fun k => laws_markJobS.f k js m) (m + 2 * (js.length : Nat), ys) := by
  simp only [laws_markJobS.f]
  exact markJobS_l0 js.length 0 js m (by omega) h0 (by omega) h2
theorem q_FnExactServedBy : ∀ (l0 : List Int) (hm0 : l0.length ≤ maxLen) (hw0 : ∀ x ∈ l0, (Lit.int .i64 x).wf = true) (l : List S56) (hm : l.length ≤ maxLen) (hw : ∀ x ∈ l, (Lit.int .i64 x.f0).wf = true ∧ (Lit.int .i64 x.f1).wf = true) (l2 : List Int) (hm2 : l2.length ≤ maxLen) (hw2 : ∀ x ∈ l2, (Lit.int .i64 x).wf = true),
    ∃ k, laws_FnExactServedBy.f k l0 l l2 = some true := by
  intro w hm0 hw0 l hm hw o hm2 hw2
  refine Ev.rounds ?_
  simp only [laws_FnExactServedBy.f]
  by_cases h0 : (w.length : Int) > 1048576
  · exact evT h0 (Ev.now _)
  refine evF h0 ?_
  by_cases h2 : (o.length : Int) > 1048576
  · exact evT h2 (Ev.now _)
  refine evF h2 ?_
  by_cases h : l.length ≤ 1048576
  · obtain ⟨v, hv, hv2⟩ := sz_some l h
    have ht := toJobS_ev l h
    have hml : (l.map c52).length ≤ 1048576 := by simpa using h
    have ht0 := toIntS_ev w (by omega)
    have hto := toIntS_ev o (by omega)
    have hq : Ev (fun k => laws_eqIntS.f k w w) true := evE (eqIntS_ev w w (by omega)) (by simp)
    have hqo : Ev (fun k => laws_eqIntS.f k o o) true := evE (eqIntS_ev o o (by omega)) (by simp)
    obtain ⟨r, hi, hs, hrl, _⟩ := served_ev w (by omega) (l.map c52) (by omega) o (by omega)
    have hqr : Ev (fun k => laws_eqIntS.f k r r) true := evE (eqIntS_ev r r (by omega)) (by simp)
    have hk0 := markIntS_ev w 1 (by omega) (by omega)
    obtain ⟨ys, hk1⟩ := markJobS_ev (l.map c52) (1 + (w.length : Int)) (by omega) (by omega) hml
    have hk2 := markIntS_ev o (1 + (w.length : Int) + 2 * ((l.map c52).length : Nat)) (by omega) (by omega)
    have hk3 := markIntS_ev r 1 (by omega) (by omega)
    have hh := heldIntS_ev r.length 1 (by omega) (by omega)
    refine evS hv (evF hv2 (Ev.bind ht0 (Ev.bind ht (Ev.bind hto (Ev.bind hs (Ev.bind ht0 (Ev.bind ht (Ev.bind hto (evS hi (Ev.bind hqr (evT rfl ?_)))))))))))
    refine Ev.bind ht0 (Ev.bind hq (evT rfl (Ev.bind ht (Ev.bind (eqJobS_ev _ hml) (evT rfl (Ev.bind hto (Ev.bind hqo (evT rfl ?_))))))))
    refine Ev.bind hk0 (Ev.bind hk1 (Ev.bind hk2 (evF (by dsimp only; omega) (Ev.bind hqr (Ev.step (fun k => by rw [laws_FnExactServedBy.j0]) (evF (by decide) ?_))))))
    refine Ev.bind hk3 (Ev.bind hh (evF (by omega) (evT rfl ?_)))
    exact Ev.bind ht0 (Ev.bind ht (Ev.bind hto (evS hi (Ev.bind hqr (evT rfl (Ev.bind hh (evF (by omega) (evT rfl (Ev.now _)))))))))
  · obtain ⟨v, hv, hv2⟩ := sz_none l h hm
    exact evS hv (evT hv2 (Ev.now _))

end Go.Proofs.Ytnagdcigoaeicaa.Q
