/- Plain lemmas on what the printed functions compute (seat Ytegnghbgkiddoaa, module QExactTreeOf). Conditions: each lemma's own. -/
import Derived.Test.YtegnghbgkiddoaaQt
import Derived.Test.YtegnghbgkiddoaaPA0
import Derived.Test.YtegnghbgkiddoaaPA11
import Derived.Test.YtegnghbgkiddoaaPA13
import Derived.Test.YtegnghbgkiddoaaPA25
import Derived.Test.YtegnghbgkiddoaaPA40
set_option linter.unusedVariables false
set_option linter.unusedSimpArgs false
namespace Go.Proofs.Ytegnghbgkiddoaa.Q
open Go Go.RowKit Go.Proofs.Ytegnghbgkiddoaa.PA Go.Proofs.YtegnghbgkiddoaaW.PrintWords Go.Proofs.YtegnghbgkiddoaaW.PrintLast

theorem eqIntS_l0 (a b : List Int) (hl : a.length = b.length) (hb : a.length ≤ 1000000000000) : ∀ d i : Nat, i + d = a.length →
    Ev (fun k => laws_eqIntS.l0 k a b (i : Int)) (decide (a.drop i = b.drop i)) := by
  intro d
  induction d with
  | zero =>
    intro i hi
    refine Ev.step (fun k => by rw [laws_eqIntS.l0]) ?_
    refine evF (by omega) (evE (Ev.now _) ?_)
    rw [List.drop_of_length_le (by omega), List.drop_of_length_le (by omega)]
    simp
  | succ d ih =>
    intro i hi
    have ha : a.drop i = a[i]'(by omega) :: a.drop (i + 1) := List.drop_eq_getElem_cons (by omega)
    have hb' : b.drop i = b[i]'(by omega) :: b.drop (i + 1) := List.drop_eq_getElem_cons (by omega)
    have e : wrap64 ((i : Int) + 1) = ((i + 1 : Nat) : Int) := by rw [w64 (by omega) (by omega)]; omega
    refine Ev.step (fun k => by rw [laws_eqIntS.l0]) ?_
    refine evT (by omega) (evT (by omega) (evT (by omega) ?_))
    rw [rd_at b i (by omega), rd_at a i (by omega), e]
    by_cases h : a[i]'(by omega) = b[i]'(by omega)
    · refine evT h (evE (ih (i + 1) (by omega)) ?_)
      rw [ha, hb']
      exact decide_eq_decide.2 ⟨fun e => by rw [h, e], fun e => (List.cons.inj e).2⟩
    · refine evF h (evE (Ev.now _) ?_)
      rw [ha, hb']
      exact (decide_eq_false (fun e => h (List.cons.inj e).1)).symm
theorem eqIntS_ev (a b : List Int) (hb : a.length ≤ 1000000000000) : Ev (fun k => laws_eqIntS.f k a b) (decide (a = b)) := by
  simp only [laws_eqIntS.f]
  by_cases h : a.length = b.length
  · exact evT (by omega) (evE (eqIntS_l0 a b h hb a.length 0 (by omega)) (by simp))
  · exact evF (by omega) (evE (Ev.now _) (by simp; intro e; exact h (by rw [e])))
/-- m, m + 1, .. -/
def cnt (m : Int) : Nat → List Int
  | 0 => []
  | n + 1 => m :: cnt (m + 1) n
theorem cnt_length (m : Int) (n : Nat) : (cnt m n).length = n := by
  induction n generalizing m with
  | zero => rfl
  | succ n ih => simp [cnt, ih]
theorem markIntS_l0 : ∀ (d : Nat) (pre post : List Int) (m : Int), post.length = d → 0 ≤ m → m + d ≤ 1000000000000 → pre.length + d ≤ 1000000000000 →
    Ev (fun k => laws_markIntS.l0 k (pre ++ post) m (pre.length : Int)) (m + d, pre ++ cnt m d) := by
  intro d
  induction d with
  | zero =>
    intro pre post m hp h0 h1 h2
    obtain rfl : post = [] := List.eq_nil_of_length_eq_zero hp
    refine Ev.step (fun k => by rw [laws_markIntS.l0]) ?_
    refine evF (by simp) (evE (Ev.now _) (by simp [cnt]))
  | succ d ih =>
    intro pre post m hp h0 h1 h2
    match post, hp with
    | x :: post, hp =>
      have hp' : post.length = d := by simpa using hp
      have e : wrap64 ((pre.length : Int) + 1) = (((pre ++ [m]).length : Nat) : Int) := by rw [w64 (by omega) (by omega)]; simp
      have e2 : wrap64 (m + 1) = m + 1 := w64 (by omega) (by omega)
      refine Ev.step (fun k => by rw [laws_markIntS.l0]) ?_
      refine evT (by simp; omega) (evT (by omega) ?_)
      have e3 : (pre ++ x :: post).set ((pre.length : Int) : Int).toNat m = (pre ++ [m]) ++ post := by simp
      rw [e, e2, e3]
      refine evE (ih (pre ++ [m]) post (m + 1) hp' (by omega) (by omega) (by simp; omega)) ?_
      simp [cnt]; omega
theorem markIntS_ev (l : List Int) (m : Int) (h0 : 0 ≤ m) (h1 : m + l.length ≤ 1000000000000) : Ev (fun k => laws_markIntS.f k l m) (m + l.length, cnt m l.length) := by
  simp only [laws_markIntS.f]
  exact markIntS_l0 l.length [] l m rfl h0 h1 (by simp; omega)
theorem heldIntS_l0 : ∀ (d : Nat) (pre : List Int) (m : Int), 0 ≤ m → m + d ≤ 1000000000000 → pre.length + d ≤ 1000000000000 →
    Ev (fun k => laws_heldIntS.l0 k (pre ++ cnt m d) m (pre.length : Int)) (m + d) := by
  intro d
  induction d with
  | zero =>
    intro pre m h0 h1 h2
    refine Ev.step (fun k => by rw [laws_heldIntS.l0]) ?_
    refine evF (by simp [cnt]) (evE (Ev.now _) (by simp))
  | succ d ih =>
    intro pre m h0 h1 h2
    have e : wrap64 ((pre.length : Int) + 1) = (((pre ++ [m]).length : Nat) : Int) := by rw [w64 (by omega) (by omega)]; simp
    have e2 : wrap64 (m + 1) = m + 1 := w64 (by omega) (by omega)
    have e3 : pre ++ cnt m (d + 1) = (pre ++ [m]) ++ cnt (m + 1) d := by simp [cnt]
    refine Ev.step (fun k => by rw [laws_heldIntS.l0]) ?_
    refine evT (by simp [cnt_length]; omega) (evT (by omega) (evT ?_ ?_))
    · rw [rd_at _ _ (by simp [cnt_length])]
      simp [cnt]
    · rw [e, e2, e3]
      exact evE (ih (pre ++ [m]) (m + 1) (by omega) (by omega) (by simp; omega)) (by omega)
theorem heldIntS_ev (n : Nat) (m : Int) (h0 : 0 ≤ m) (h1 : m + n ≤ 1000000000000) : Ev (fun k => laws_heldIntS.f k (cnt m n) m) (m + n) := by
  simp only [laws_heldIntS.f]
  exact heldIntS_l0 n [] m h0 h1 (by simp; omega)

/-! ### lists of cables: taken over, compared, marked -/
def c68 (x : S68) : S44 := ⟨x.f0, x.f1, x.f2⟩
theorem toCableS_l0 (l : List S68) (hl : l.length ≤ 1048576) : ∀ (d i : Nat) (s : List S44), i + d = l.length → s.length = l.length → (∀ j, j < i → s[j]? = (l.map c68)[j]?) →
    Ev (fun k => laws_toCableS.l0 k l s (i : Int)) (l.map c68) := by
  intro d
  induction d with
  | zero =>
    intro i s hi hs hj
    refine Ev.step (fun k => by rw [laws_toCableS.l0]) ?_
    refine evF (by omega) (evE (Ev.now _) ?_)
    refine List.ext_getElem? fun j => ?_
    by_cases h : j < i
    · exact hj j h
    · rw [List.getElem?_eq_none (by omega), List.getElem?_eq_none (by rw [List.length_map]; omega)]
  | succ d ih =>
    intro i s hi hs hj
    have e : wrap64 ((i : Int) + 1) = ((i + 1 : Nat) : Int) := by rw [w64 (by omega) (by omega)]; omega
    have hil : i < l.length := by omega
    have hx : rd_T68 l (i : Int) = l[i] := by simp [rd_T68, List.getD_eq_getElem?_getD, hil]
    refine Ev.step (fun k => by rw [laws_toCableS.l0]) ?_
    refine evT (by omega) (evT (by omega) (evS rfl (evT (by omega) ?_)))
    rw [hx, e, Int.toNat_natCast]
    refine ih (i + 1) (s.set i (c68 l[i])) (by omega) (by rw [List.length_set, hs]) (fun j hj2 => ?_)
    rw [List.getElem?_set]
    by_cases e2 : i = j
    · subst e2
      rw [if_pos rfl, if_pos (by omega)]
      simp [hil]
    · rw [if_neg e2]; exact hj j (by omega)
theorem toCableS_ev (l : List S68) (hl : l.length ≤ 1048576) : Ev (fun k => laws_toCableS.f k l) (l.map c68) := by
  simp only [laws_toCableS.f]
  refine evT (by omega) (evT (by omega) ?_)
  exact toCableS_l0 l hl l.length 0 _ (by omega) (by simp) (fun j hj => by omega)
theorem eqCableS_l0 (l : List S44) (hl : l.length ≤ 1048576) : ∀ (d i : Nat), i + d = l.length → Ev (fun k => laws_eqCableS.l0 k l l (i : Int)) true := by
  intro d
  induction d with
  | zero =>
    intro i hi
    refine Ev.step (fun k => by rw [laws_eqCableS.l0]) ?_
    exact evF (by omega) (Ev.now _)
  | succ d ih =>
    intro i hi
    have e : wrap64 ((i : Int) + 1) = ((i + 1 : Nat) : Int) := by rw [w64 (by omega) (by omega)]; omega
    refine Ev.step (fun k => by rw [laws_eqCableS.l0]) ?_
    refine evT (by omega) (evT (by omega) (evT (by omega) (evS (a := true) (by unfold laws_eqCable.f; rw [if_pos rfl, if_pos rfl, if_pos rfl]) (evT rfl ?_))))
    rw [e]
    exact ih (i + 1) (by omega)
theorem eqCableS_ev (l : List S44) (hl : l.length ≤ 1048576) : Ev (fun k => laws_eqCableS.f k l l) true := by
  simp only [laws_eqCableS.f]
  exact evT (by trivial) (eqCableS_l0 l hl l.length 0 (by omega))
theorem sz_some (l : List S68) (h : l.length ≤ 1048576) : ∃ v : Int, laws_szCableS.f l 1048576 = some v ∧ ¬ v < 0 := by
  refine ⟨wrap64 (1048576 - (l.length : Int)), ?_, ?_⟩
  · unfold laws_szCableS.f
    rw [if_neg (by rw [w64 (by omega) (by omega)]; omega)]
  · rw [w64 (by omega) (by omega)]; omega
theorem sz_none (l : List S68) (h : ¬ l.length ≤ 1048576) (hm : l.length ≤ maxLen) : ∃ v : Int, laws_szCableS.f l 1048576 = some v ∧ v < 0 := by
  refine ⟨-1, ?_, by omega⟩
  unfold laws_szCableS.f
  unfold maxLen at hm
  rw [if_pos (by rw [w64 (by omega) (by omega)]; omega)]

theorem markCableS_l0 : ∀ (d i : Nat) (l : List S44) (m : Int), i + d = l.length → l.length ≤ 1048576 → 0 ≤ m → m + 3 * d ≤ 1000000000 → ∃ ys, Ev (fun k => laws_markCableS.l0 k l m (i : Int)) (m + 3 * d, ys) := by
  intro d
  induction d with
  | zero =>
    intro i l m hi hl h0 h1
    refine ⟨l, Ev.step (fun k => by rw [laws_markCableS.l0]) ?_⟩
    exact evF (by omega) (evE (Ev.now _) (by simp))
  | succ d ih =>
    intro i l m hi hl h0 h1
    have e : wrap64 ((i : Int) + 1) = ((i + 1 : Nat) : Int) := by rw [w64 (by omega) (by omega)]; omega
    have e2 : wrap64 (wrap64 (wrap64 (m + 1) + 1) + 1) = m + 3 := by rw [w64 (x := m + 1) (by omega) (by omega), w64 (x := m + 1 + 1) (by omega) (by omega), w64 (by omega) (by omega)]; omega
    have key : ∀ l' : List S44, l'.length = l.length → ∃ ys, Ev (fun k => laws_markCableS.l0 k l' (m + 3) ((i + 1 : Nat) : Int)) (m + 3 * ((d + 1 : Nat) : Int), ys) := fun l' hl' => by
      obtain ⟨ys, h⟩ := ih (i + 1) l' (m + 3) (by omega) (by omega) (by omega) (by omega)
      refine ⟨ys, evE h ?_⟩
      congr 1
      omega
    obtain ⟨l1, hl1⟩ : ∃ l1, l1 = l.set i (⟨m, (rd_T44 l (i : Int)).f1, (rd_T44 l (i : Int)).f2⟩ : S44) := ⟨_, rfl⟩
    obtain ⟨l2, hl2⟩ : ∃ l2, l2 = l1.set i (⟨(rd_T44 l1 (i : Int)).f0, wrap64 (m + 1), (rd_T44 l1 (i : Int)).f2⟩ : S44) := ⟨_, rfl⟩
    obtain ⟨ys, h⟩ := key (l2.set i (⟨(rd_T44 l2 (i : Int)).f0, (rd_T44 l2 (i : Int)).f1, wrap64 ((wrap64 (m + 1)) + 1)⟩ : S44)) (by rw [List.length_set, hl2, List.length_set, hl1, List.length_set])
    refine ⟨ys, Ev.step (fun k => by rw [laws_markCableS.l0]) ?_⟩
    refine evT (by omega) (evT (by omega) (evS (a := l1) (by rw [hl1, Int.toNat_natCast]) (evS (a := l2) (by rw [hl2, Int.toNat_natCast]) ?_)))
    rw [e, e2, Int.toNat_natCast]
    exact h
theorem markCableS_ev (l : List S44) (hl : l.length ≤ 1048576) : ∃ ys v, Ev (fun k => laws_markCableS.f k l 1) (v, ys) ∧ ¬ v < 0 := by
  obtain ⟨ys, h⟩ := markCableS_l0 l.length 0 l 1 (by omega) hl (by omega) (by omega)
  exact ⟨ys, _, h, by omega⟩

theorem q_FnExactTreeOf : ∀ (a0 : Int) (w0 : (Lit.int .i64 a0).wf = true) (l : List S68) (hm : l.length ≤ maxLen) (hw : ∀ x ∈ l, (Lit.int .i64 x.f0).wf = true ∧ (Lit.int .i64 x.f1).wf = true ∧ (Lit.int .i64 x.f2).wf = true),
    ∃ k, laws_FnExactTreeOf.f k a0 l = some true := by
  intro n w0 l hm hw
  refine Ev.rounds ?_
  simp only [laws_FnExactTreeOf.f]
  by_cases h : l.length ≤ 1048576
  · obtain ⟨v, hv, hv2⟩ := sz_some l h
    have ht := toCableS_ev l h
    have hml : (l.map c68).length ≤ 1048576 := by simpa using h
    obtain ⟨ts, hi, hs, hr⟩ := treeOf_ev n (l.map c68)
    have hdl : ts.length ≤ 1048576 := by
      rcases hr with ⟨_, rfl⟩ | ⟨m, ds, _, hV, hc, rfl, _⟩
      · simp
      · unfold ints
        rw [List.length_map]
        have := List.length_filter_le (fun _ => true) (List.range 0)
        have h20 := hV.len
        have := hV.m8
        have : (treeL m ((l.map c68).map cbOf) ds).length ≤ ((l.map c68).map cbOf).length := by
          unfold treeL
          exact Nat.le_trans (List.length_filter_le _ _) (by simp)
        rw [List.length_map] at this
        omega
    have hq : Ev (fun k => laws_eqIntS.f k ts ts) true := evE (eqIntS_ev _ _ (by omega)) (by simp)
    obtain ⟨ys, u, hmk, hu⟩ := markCableS_ev (l.map c68) hml
    have hh := heldIntS_ev ts.length 1 (by omega) (by omega)
    refine evS hv (evF hv2 (Ev.bind ht (Ev.bind hs (Ev.bind ht (Ev.bind hi (Ev.bind hq (evT rfl (Ev.bind ht (Ev.bind (eqCableS_ev _ hml) (evT rfl (Ev.bind hmk (evF hu (Ev.bind hq ?_)))))))))))))
    refine Ev.step (fun k => by rw [laws_FnExactTreeOf.j0]) ?_
    refine evF (by simp) (Ev.bind (markIntS_ev ts 1 (by omega) (by omega)) (Ev.bind hh ?_))
    refine evF (show ¬ ((1 : Int) + ts.length < 0) by omega) (evT rfl (Ev.bind ht (Ev.bind hi (Ev.bind hq (evT rfl (Ev.bind hh ?_))))))
    exact evF (show ¬ ((1 : Int) + ts.length < 0) by omega) (evT rfl (Ev.now _))
  · obtain ⟨v, hv, hv2⟩ := sz_none l h hm
    exact evS hv (evT hv2 (Ev.now _))

end Go.Proofs.Ytegnghbgkiddoaa.Q
