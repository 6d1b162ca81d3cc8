/- Plain lemmas on what the printed functions compute (seat Ytegnghbgkiddoaa, module Qr). Conditions: each lemma's own. -/
import Derived.Test.YtegnghbgkiddoaaQc
import Derived.Test.YtegnghbgkiddoaaPA0
import Derived.Test.YtegnghbgkiddoaaPA15
import Derived.Test.YtegnghbgkiddoaaPA37
set_option linter.unusedVariables false
set_option linter.unusedSimpArgs false
namespace Go.Proofs.Ytegnghbgkiddoaa.Q
open Go Go.RowKit Go.Proofs.Ytegnghbgkiddoaa.PA Go.Proofs.YtegnghbgkiddoaaW.PrintWords Go.Proofs.YtegnghbgkiddoaaW.PrintLast

/-! ### the answers -/
theorem cv_intro {m : Nat} {l : List S44} (h : Vd m l) : cv (m : Int) l = true := by
  have h1 := h.m1
  have h8 := h.m8
  have h20 := h.len
  simp only [cv, Bool.and_eq_true, decide_eq_true_eq, List.all_eq_true, Bool.not_eq_true', beq_eq_false_iff_ne, ne_eq]
  refine ⟨by omega, by omega, fun x hx => ?_⟩
  obtain ⟨i, hi, rfl⟩ := List.getElem_of_mem hx
  obtain ⟨a, b, c, e, ha, hb, hne, hc1, hc2⟩ := h.ok i hi
  rw [e]
  dsimp only
  omega
theorem cv_false {n : Int} {l : List S44} (h : ¬ cv n l = true) : cv n l = false := by simpa using h
theorem implRoot_ev {m : Nat} {l : List S44} (hV : Vd m l) {b r : Nat} (hb : b < m) (hr : Rt (l.map cbOf) b r) : Ev (fun k => impl_RootOf.f k (m : Int) l (b : Int)) (r : Int) := by
  have hm8 := hV.m8
  obtain ⟨rs, h1, h2, h3⟩ := implRoots_ev hV
  simp only [impl_RootOf.f]
  refine evS (implCables_eq _ _) (evT (cv_intro hV) (evS (within_eq _ _ _) ?_))
  rw [w64 (by omega) (by omega), decide_eq_true (by omega)]
  refine evT rfl (Ev.bind h1 (evT (by omega) (evT (by omega) (evE (Ev.now _) ?_))))
  rw [rd_getD, h3 b r hb hr]
theorem root_ev (n : Int) (l : List S44) (b : Int) : ∃ r, Ev (fun k => impl_RootOf.f k n l b) r ∧ Ev (fun k => spec_RootOf.f k n l b) r ∧
    (r = -1 ∨ ∃ m b' r' : Nat, n = (m : Int) ∧ Vd m l ∧ b = (b' : Int) ∧ b' < m ∧ Rt (l.map cbOf) b' r' ∧ r = (r' : Int)) := by
  by_cases hc : cv n l = true
  · obtain ⟨m, rfl, hV⟩ := cv_elim hc
    have hm8 := hV.m8
    by_cases hb : 0 ≤ b ∧ b ≤ (m : Int) - 1
    · obtain ⟨b', rfl⟩ := Int.eq_ofNat_of_zero_le hb.1
      obtain ⟨r, hr⟩ := Rt.ex (l.map cbOf) b'
      refine ⟨(r : Int), implRoot_ev hV (by omega) hr, ?_, .inr ⟨m, b', r, rfl, hV, rfl, by omega, hr, rfl⟩⟩
      simp only [spec_RootOf.f]
      refine Ev.bind (specCables_ev _ _) (evT hc (evS (l1In_eq _ _ _) ?_))
      rw [w64 (by omega) (by omega), decide_eq_true hb]
      exact evT rfl (Ev.bind (specRoot_ev hV (by omega) hr) (Ev.now _))
    · refine ⟨-1, ?_, ?_, .inl rfl⟩
      · simp only [impl_RootOf.f]
        refine evS (implCables_eq _ _) (evT hc (evS (within_eq _ _ _) ?_))
        rw [w64 (by omega) (by omega), decide_eq_false hb]
        exact evF (by simp) (Ev.now _)
      · simp only [spec_RootOf.f]
        refine Ev.bind (specCables_ev _ _) (evT hc (evS (l1In_eq _ _ _) ?_))
        rw [w64 (by omega) (by omega), decide_eq_false hb]
        exact evF (by simp) (Ev.now _)
  · refine ⟨-1, ?_, ?_, .inl rfl⟩
    · simp only [impl_RootOf.f]
      exact evS (implCables_eq _ _) (evF hc (Ev.now _))
    · simp only [spec_RootOf.f]
      exact Ev.bind (specCables_ev _ _) (evF hc (Ev.now _))

end Go.Proofs.Ytegnghbgkiddoaa.Q
