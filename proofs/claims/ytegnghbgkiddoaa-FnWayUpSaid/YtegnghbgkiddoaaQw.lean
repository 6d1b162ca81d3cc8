/- Plain lemmas on what the printed functions compute (seat Ytegnghbgkiddoaa, module Qw). Conditions: each lemma's own. -/
import Derived.Test.YtegnghbgkiddoaaQu
import Derived.Test.YtegnghbgkiddoaaPA0
import Derived.Test.YtegnghbgkiddoaaPA35
set_option linter.unusedVariables false
set_option linter.unusedSimpArgs false
namespace Go.Proofs.Ytegnghbgkiddoaa.Q
open Go Go.RowKit Go.Proofs.Ytegnghbgkiddoaa.PA Go.Proofs.YtegnghbgkiddoaaW.PrintWords Go.Proofs.YtegnghbgkiddoaaW.PrintLast

/-! ### ways -/
theorem wayUp_ev (n : Int) (l : List S44) (b : Int) : ∃ ws, Ev (fun k => impl_WayUp.f k n l b) ws ∧ Ev (fun k => spec_WayUp.f k n l b) ws ∧
    (ws = [] ∨ ∃ m b' : Nat, ∃ ds w, n = (m : Int) ∧ Vd m l ∧ b = (b' : Int) ∧ b' < m ∧ Cs m (l.map cbOf) ds ∧ Way (l.map cbOf) ds b' w ∧ w.length ≤ 1000 ∧ ws = ints w) := by
  by_cases hc : cv n l = true
  · obtain ⟨m, rfl, hV⟩ := cv_elim hc
    have hm8 := hV.m8
    by_cases hb : 0 ≤ b ∧ b ≤ (m : Int) - 1
    · obtain ⟨b', rfl⟩ := Int.eq_ofNat_of_zero_le hb.1
      obtain ⟨ds, h1, h2, h3⟩ := costs_ev hV
      obtain ⟨w, hw, hwl⟩ := Way.ex hV.okc h1 (ds.getD b' 0).toNat b' (by omega) (Nat.le_refl _)
      have h792 := (h1.2 b' (by omega)).small hV.okc (by omega)
      have hwl2 : w.length ≤ 1000 := by omega
      refine ⟨ints w, ?_, ?_, .inr ⟨m, b', ds, w, rfl, hV, rfl, by omega, h1, hw, hwl2, rfl⟩⟩
      · simp only [impl_WayUp.f]
        refine evS (implCables_eq _ _) (evT hc (evS (within_eq _ _ _) ?_))
        rw [w64 (by omega) (by omega), decide_eq_true hb]
        refine Ev.step (fun k => by rw [impl_WayUp.j0]) ?_
        refine evF (by simp) (Ev.bind h2 ?_)
        exact implWay_l0 hV h1 hw (by omega) [] (by simp; omega)
      · simp only [spec_WayUp.f]
        refine evS rfl (Ev.bind (specCables_ev _ _) (evT hc (evS (l1In_eq _ _ _) ?_)))
        rw [w64 (by omega) (by omega), decide_eq_true hb]
        refine Ev.step (fun k => by rw [spec_WayUp.j0]) ?_
        refine evF (by simp) (Ev.bind h3 (evT (by simp) ?_))
        rcases up_ev hV h1 (show b' < m by omega) with ⟨_, _, h5⟩ | ⟨_, _, _, _, h5⟩
        · exact Ev.bind h5 (specWay_l0 hV h1 hw (by omega) [] _ (by simp; omega) h5)
        · exact Ev.bind h5 (specWay_l0 hV h1 hw (by omega) [] _ (by simp; omega) h5)
    · refine ⟨[], ?_, ?_, .inl rfl⟩
      · simp only [impl_WayUp.f]
        refine evS (implCables_eq _ _) (evT hc (evS (within_eq _ _ _) ?_))
        rw [w64 (by omega) (by omega), decide_eq_false hb]
        refine Ev.step (fun k => by rw [impl_WayUp.j0]) ?_
        exact evT rfl (Ev.now _)
      · simp only [spec_WayUp.f]
        refine evS rfl (Ev.bind (specCables_ev _ _) (evT hc (evS (l1In_eq _ _ _) ?_)))
        rw [w64 (by omega) (by omega), decide_eq_false hb]
        refine Ev.step (fun k => by rw [spec_WayUp.j0]) ?_
        exact evT rfl (Ev.now _)
  · refine ⟨[], ?_, ?_, .inl rfl⟩
    · simp only [impl_WayUp.f]
      refine evS (implCables_eq _ _) (evF hc ?_)
      refine Ev.step (fun k => by rw [impl_WayUp.j0]) ?_
      exact evT rfl (Ev.now _)
    · simp only [spec_WayUp.f]
      refine evS rfl (Ev.bind (specCables_ev _ _) (evF hc ?_))
      refine Ev.step (fun k => by rw [spec_WayUp.j0]) ?_
      exact evT rfl (Ev.now _)

end Go.Proofs.Ytegnghbgkiddoaa.Q
