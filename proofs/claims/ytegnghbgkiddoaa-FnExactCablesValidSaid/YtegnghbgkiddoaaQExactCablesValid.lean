/- Plain lemmas on what the printed functions compute (seat Ytegnghbgkiddoaa, module QExactCablesValid). Conditions: each lemma's own. -/
import Derived.Test.YtegnghbgkiddoaaQc
import Derived.Test.YtegnghbgkiddoaaPA0
import Derived.Test.YtegnghbgkiddoaaPA11
import Derived.Test.YtegnghbgkiddoaaPA40
set_option linter.unusedVariables false
set_option linter.unusedSimpArgs false
namespace Go.Proofs.Ytegnghbgkiddoaa.Q
open Go Go.RowKit Go.Proofs.Ytegnghbgkiddoaa.PA Go.Proofs.YtegnghbgkiddoaaW.PrintWords Go.Proofs.YtegnghbgkiddoaaW.PrintLast

/-! ### lists of cables: taken over, compared, marked -/
def c68 (x : S68) : S44 := ⟨x.f0, x.f1, x.f2⟩
theorem toCableS_l0 (l : List S68) (hl : l.length ≤ 1048576) : ∀ (d i : Nat) (s : List S44), i + d = l.length → s.length = l.length → (∀ j, j < i → s[j]? = (l.map c68)[j]?) →
    Ev (fun k => laws_toCableS.l0 k l s (i : Int)) (l.map c68) := by
  intro d
  induction d with
  | zero =>
    intro i s hi hs hj
    refine Ev.step (fun k => by rw [laws_toCableS.l0]) ?_
    refine evF (by omega) (evE (Ev.now _) ?_)
    refine List.ext_getElem? fun j => ?_
    by_cases h : j < i
    · exact hj j h
    · rw [List.getElem?_eq_none (by omega), List.getElem?_eq_none (by rw [List.length_map]; omega)]
  | succ d ih =>
    intro i s hi hs hj
    have e : wrap64 ((i : Int) + 1) = ((i + 1 : Nat) : Int) := by rw [w64 (by omega) (by omega)]; omega
    have hil : i < l.length := by omega
    have hx : rd_T68 l (i : Int) = l[i] := by simp [rd_T68, List.getD_eq_getElem?_getD, hil]
    refine Ev.step (fun k => by rw [laws_toCableS.l0]) ?_
    refine evT (by omega) (evT (by omega) (evS rfl (evT (by omega) ?_)))
    rw [hx, e, Int.toNat_natCast]
    refine ih (i + 1) (s.set i (c68 l[i])) (by omega) (by rw [List.length_set, hs]) (fun j hj2 => ?_)
    rw [List.getElem?_set]
    by_cases e2 : i = j
    · subst e2
      rw [if_pos rfl, if_pos (by omega)]
      simp [hil]
    · rw [if_neg e2]; exact hj j (by omega)
theorem toCableS_ev (l : List S68) (hl : l.length ≤ 1048576) : Ev (fun k => laws_toCableS.f k l) (l.map c68) := by
  simp only [laws_toCableS.f]
  refine evT (by omega) (evT (by omega) ?_)
  exact toCableS_l0 l hl l.length 0 _ (by omega) (by simp) (fun j hj => by omega)
theorem eqCableS_l0 (l : List S44) (hl : l.length ≤ 1048576) : ∀ (d i : Nat), i + d = l.length → Ev (fun k => laws_eqCableS.l0 k l l (i : Int)) true := by
  intro d
  induction d with
  | zero =>
    intro i hi
    refine Ev.step (fun k => by rw [laws_eqCableS.l0]) ?_
    exact evF (by omega) (Ev.now _)
  | succ d ih =>
    intro i hi
    have e : wrap64 ((i : Int) + 1) = ((i + 1 : Nat) : Int) := by rw [w64 (by omega) (by omega)]; omega
    refine Ev.step (fun k => by rw [laws_eqCableS.l0]) ?_
    refine evT (by omega) (evT (by omega) (evT (by omega) (evS (a := true) (by unfold laws_eqCable.f; rw [if_pos rfl, if_pos rfl, if_pos rfl]) (evT rfl ?_))))
    rw [e]
    exact ih (i + 1) (by omega)
theorem eqCableS_ev (l : List S44) (hl : l.length ≤ 1048576) : Ev (fun k => laws_eqCableS.f k l l) true := by
  simp only [laws_eqCableS.f]
  exact evT (by trivial) (eqCableS_l0 l hl l.length 0 (by omega))
theorem sz_some (l : List S68) (h : l.length ≤ 1048576) : ∃ v : Int, laws_szCableS.f l 1048576 = some v ∧ ¬ v < 0 := by
  refine ⟨wrap64 (1048576 - (l.length : Int)), ?_, ?_⟩
  · unfold laws_szCableS.f
    rw [if_neg (by rw [w64 (by omega) (by omega)]; omega)]
  · rw [w64 (by omega) (by omega)]; omega
theorem sz_none (l : List S68) (h : ¬ l.length ≤ 1048576) (hm : l.length ≤ maxLen) : ∃ v : Int, laws_szCableS.f l 1048576 = some v ∧ v < 0 := by
  refine ⟨-1, ?_, by omega⟩
  unfold laws_szCableS.f
  unfold maxLen at hm
  rw [if_pos (by rw [w64 (by omega) (by omega)]; omega)]

theorem q_FnExactCablesValid : ∀ (a0 : Int) (w0 : (Lit.int .i64 a0).wf = true) (l : List S68) (hm : l.length ≤ maxLen) (hw : ∀ x ∈ l, (Lit.int .i64 x.f0).wf = true ∧ (Lit.int .i64 x.f1).wf = true ∧ (Lit.int .i64 x.f2).wf = true),
    ∃ k, laws_FnExactCablesValid.f k a0 l = some true := by
  intro n w0 l hm hw
  refine Ev.rounds ?_
  simp only [laws_FnExactCablesValid.f]
  by_cases h : l.length ≤ 1048576
  · obtain ⟨v, hv, hv2⟩ := sz_some l h
    have ht := toCableS_ev l h
    refine evS hv (evF hv2 (Ev.bind ht (Ev.bind (specCables_ev _ _) (Ev.bind ht (evS (implCables_eq _ _) (evF (by simp) (Ev.bind ht (Ev.bind (eqCableS_ev _ (by simpa using h)) ?_))))))))
    exact evT rfl (Ev.now _)
  · obtain ⟨v, hv, hv2⟩ := sz_none l h hm
    exact evS hv (evT hv2 (Ev.now _))

end Go.Proofs.Ytegnghbgkiddoaa.Q
