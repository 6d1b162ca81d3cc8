/- Plain lemmas on what the printed functions compute (seat Ytegnghbgkiddoaa, module QExactRunBridge). Conditions: each lemma's own. -/
import Derived.Test.YtegnghbgkiddoaaQrb
import Derived.Test.YtegnghbgkiddoaaPA0
import Derived.Test.YtegnghbgkiddoaaPA13
import Derived.Test.YtegnghbgkiddoaaPA55
import Derived.Test.YtegnghbgkiddoaaPA56
import Derived.Test.YtegnghbgkiddoaaPA57
set_option linter.unusedVariables false
set_option linter.unusedSimpArgs false
namespace Go.Proofs.Ytegnghbgkiddoaa.Q
open Go Go.RowKit Go.Proofs.Ytegnghbgkiddoaa.PA Go.Proofs.YtegnghbgkiddoaaW.PrintWords Go.Proofs.YtegnghbgkiddoaaW.PrintLast

/-! ### lists of hops: taken over, compared, marked -/
def c95 (x : S95) : S93 := ⟨x.f0, x.f1, x.f2⟩
theorem toHopS_l0 (l : List S95) (hl : l.length ≤ 1048576) : ∀ (d i : Nat) (s : List S93), i + d = l.length → s.length = l.length → (∀ j, j < i → s[j]? = (l.map c95)[j]?) →
    Ev (fun k => laws_toHopS.l0 k l s (i : Int)) (l.map c95) := by
  intro d
  induction d with
  | zero =>
    intro i s hi hs hj
    refine Ev.step (fun k => by rw [laws_toHopS.l0]) ?_
    refine evF (by omega) (evE (Ev.now _) ?_)
    refine List.ext_getElem? fun j => ?_
    by_cases h : j < i
    · exact hj j h
    · rw [List.getElem?_eq_none (by omega), List.getElem?_eq_none (by rw [List.length_map]; omega)]
  | succ d ih =>
    intro i s hi hs hj
    have e : wrap64 ((i : Int) + 1) = ((i + 1 : Nat) : Int) := by rw [w64 (by omega) (by omega)]; omega
    have hil : i < l.length := by omega
    have hx : rd_T95 l (i : Int) = l[i] := by simp [rd_T95, List.getD_eq_getElem?_getD, hil]
    refine Ev.step (fun k => by rw [laws_toHopS.l0]) ?_
    refine evT (by omega) (evT (by omega) (evS rfl (evT (by omega) ?_)))
    rw [hx, e, Int.toNat_natCast]
    refine ih (i + 1) (s.set i (c95 l[i])) (by omega) (by rw [List.length_set, hs]) (fun j hj2 => ?_)
    rw [List.getElem?_set]
    by_cases e2 : i = j
    · subst e2
      rw [if_pos rfl, if_pos (by omega)]
      simp [hil]
    · rw [if_neg e2]; exact hj j (by omega)
theorem toHopS_ev (l : List S95) (hl : l.length ≤ 1048576) : Ev (fun k => laws_toHopS.f k l) (l.map c95) := by
  simp only [laws_toHopS.f]
  refine evT (by omega) (evT (by omega) ?_)
  exact toHopS_l0 l hl l.length 0 _ (by omega) (by simp) (fun j hj => by omega)
theorem eqHopS_l0 (l : List S93) (hl : l.length ≤ 1048576) : ∀ (d i : Nat), i + d = l.length → Ev (fun k => laws_eqHopS.l0 k l l (i : Int)) true := by
  intro d
  induction d with
  | zero =>
    intro i hi
    refine Ev.step (fun k => by rw [laws_eqHopS.l0]) ?_
    exact evF (by omega) (Ev.now _)
  | succ d ih =>
    intro i hi
    have e : wrap64 ((i : Int) + 1) = ((i + 1 : Nat) : Int) := by rw [w64 (by omega) (by omega)]; omega
    refine Ev.step (fun k => by rw [laws_eqHopS.l0]) ?_
    refine evT (by omega) (evT (by omega) (evT (by omega) (evS (a := true) (by unfold laws_eqHop.f; rw [if_pos rfl, if_pos rfl, if_pos rfl]) (evT rfl ?_))))
    rw [e]
    exact ih (i + 1) (by omega)
theorem eqHopS_ev (l : List S93) (hl : l.length ≤ 1048576) : Ev (fun k => laws_eqHopS.f k l l) true := by
  simp only [laws_eqHopS.f]
  exact evT (by trivial) (eqHopS_l0 l hl l.length 0 (by omega))
theorem sz_some (l : List S95) (h : l.length ≤ 1048576) : ∃ v : Int, laws_szHopS.f l 1048576 = some v ∧ ¬ v < 0 := by
  refine ⟨wrap64 (1048576 - (l.length : Int)), ?_, ?_⟩
  · unfold laws_szHopS.f
    rw [if_neg (by rw [w64 (by omega) (by omega)]; omega)]
  · rw [w64 (by omega) (by omega)]; omega
theorem sz_none (l : List S95) (h : ¬ l.length ≤ 1048576) (hm : l.length ≤ maxLen) : ∃ v : Int, laws_szHopS.f l 1048576 = some v ∧ v < 0 := by
  refine ⟨-1, ?_, by omega⟩
  unfold laws_szHopS.f
  unfold maxLen at hm
  rw [if_pos (by rw [w64 (by omega) (by omega)]; omega)]
theorem markHopS_l0 : ∀ (d i : Nat) (l : List S93) (m : Int), i + d = l.length → l.length ≤ 1048576 → 0 ≤ m → m + 3 * d ≤ 1000000000 → ∃ ys, Ev (fun k => laws_markHopS.l0 k l m (i : Int)) (m + 3 * d, ys) := by
  intro d
  induction d with
  | zero =>
    intro i l m hi hl h0 h1
    refine ⟨l, Ev.step (fun k => by rw [laws_markHopS.l0]) ?_⟩
    exact evF (by omega) (evE (Ev.now _) (by simp))
  | succ d ih =>
    intro i l m hi hl h0 h1
    have e : wrap64 ((i : Int) + 1) = ((i + 1 : Nat) : Int) := by rw [w64 (by omega) (by omega)]; omega
    have e2 : wrap64 (wrap64 (wrap64 (m + 1) + 1) + 1) = m + 3 := by rw [w64 (x := m + 1) (by omega) (by omega), w64 (x := m + 1 + 1) (by omega) (by omega), w64 (by omega) (by omega)]; omega
    have key : ∀ l' : List S93, l'.length = l.length → ∃ ys, Ev (fun k => laws_markHopS.l0 k l' (m + 3) ((i + 1 : Nat) : Int)) (m + 3 * ((d + 1 : Nat) : Int), ys) := fun l' hl' => by
      obtain ⟨ys, h⟩ := ih (i + 1) l' (m + 3) (by omega) (by omega) (by omega) (by omega)
      refine ⟨ys, evE h ?_⟩
      congr 1
      omega
    obtain ⟨l1, hl1⟩ : ∃ l1, l1 = l.set i (⟨m, (rd_T93 l (i : Int)).f1, (rd_T93 l (i : Int)).f2⟩ : S93) := ⟨_, rfl⟩
    obtain ⟨l2, hl2⟩ : ∃ l2, l2 = l1.set i (⟨(rd_T93 l1 (i : Int)).f0, wrap64 (m + 1), (rd_T93 l1 (i : Int)).f2⟩ : S93) := ⟨_, rfl⟩
    obtain ⟨ys, h⟩ := key (l2.set i (⟨(rd_T93 l2 (i : Int)).f0, (rd_T93 l2 (i : Int)).f1, wrap64 ((wrap64 (m + 1)) + 1)⟩ : S93)) (by rw [List.length_set, hl2, List.length_set, hl1, List.length_set])
    refine ⟨ys, Ev.step (fun k => by rw [laws_markHopS.l0]) ?_⟩
    refine evT (by omega) (evT (by omega) (evS (a := l1) (by rw [hl1, Int.toNat_natCast]) (evS (a := l2) (by rw [hl2, Int.toNat_natCast]) ?_)))
    rw [e, e2, Int.toNat_natCast]
    exact h
theorem markHopS_ev (l : List S93) (hl : l.length ≤ 1048576) : ∃ ys v, Ev (fun k => laws_markHopS.f k l 1) (v, ys) ∧ ¬ v < 0 := by
  obtain ⟨ys, h⟩ := markHopS_l0 l.length 0 l 1 (by omega) hl (by omega) (by omega)
  exact ⟨ys, _, h, by omega⟩

theorem q_FnExactRunBridge : ∀ (a0 : Int) (w0 : (Lit.int .i64 a0).wf = true) (l : List S95) (hm : l.length ≤ maxLen) (hw : ∀ x ∈ l, (Lit.int .i64 x.f0).wf = true ∧ (Lit.int .i64 x.f1).wf = true ∧ (Lit.int .i64 x.f2).wf = true),
    ∃ k, laws_FnExactRunBridge.f k a0 l = some true := by
  intro n w0 l hm hw
  refine Ev.rounds ?_
  simp only [laws_FnExactRunBridge.f]
  by_cases h : l.length ≤ 1048576
  · obtain ⟨v, hv, hv2⟩ := sz_some l h
    have ht := toHopS_ev l h
    have hml : (l.map c95).length ≤ 1048576 := by simpa using h
    have hS := runR_small n (l.map c95)
    have hi := implRun_ev n (l.map c95)
    have hs := specRun_ev n (l.map c95)
    generalize runR n (l.map c95) = Y at hS hi hs
    obtain ⟨T, X, b⟩ := Y
    have hT : T.length ≤ 1000 := hS.t
    have hF : Few X := hS.o
    have hl := hF.len
    have htt := hF.tot
    have hq0 : Ev (fun k => laws_eqIntS.f k T T) true := evE (eqIntS_ev T T (by omega)) (by simp)
    have hq := eqIntSS_ev X (by omega) (fun c hc => by have := hF.row c hc; omega)
    have hh0 := heldIntS_ev T.length 1 (by omega) (by omega)
    have hh := heldIntSS_ev X ((1 : Int) + T.length) (by omega) (by omega) (by omega)
    obtain ⟨ys, u, hmk, hu⟩ := markHopS_ev (l.map c95) hml
    refine evS hv (evF hv2 (Ev.bind ht (Ev.bind hs (Ev.bind ht (Ev.bind hi (Ev.bind hq0 (evT rfl (Ev.bind hq (evT rfl (evT rfl (Ev.bind ht (Ev.bind (eqHopS_ev _ hml) (evT rfl (Ev.bind hmk (evF hu (Ev.bind hq0 (evT rfl (Ev.bind hq (evT rfl ?_)))))))))))))))))))
    refine Ev.bind (markIntS_ev T 1 (by omega) (by omega)) (Ev.bind (markIntSS_ev X ((1 : Int) + T.length) (by omega) (by omega) (by omega)) (Ev.bind hh0 (evF (by omega) (Ev.bind hh (evF (by omega) (evT rfl ?_))))))
    refine Ev.bind ht (Ev.bind hi (Ev.bind hq0 (evT rfl (Ev.bind hq (evT rfl (evT rfl ?_))))))
    exact Ev.bind hh0 (evF (by omega) (Ev.bind hh (evF (by omega) (evT rfl (Ev.now _)))))
  · obtain ⟨v, hv, hv2⟩ := sz_none l h hm
    exact evS hv (evT hv2 (Ev.now _))

end Go.Proofs.Ytegnghbgkiddoaa.Q
