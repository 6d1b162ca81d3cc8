/- Plain lemmas on what the printed functions compute (seat Ytegnghbgkiddoaa, module Qe). Conditions: each lemma's own. -/
import Derived.Test.YtegnghbgkiddoaaQd
import Derived.Test.YtegnghbgkiddoaaQr
import Derived.Test.YtegnghbgkiddoaaPA0
import Derived.Test.YtegnghbgkiddoaaPA26
import Derived.Test.YtegnghbgkiddoaaPA38
set_option linter.unusedVariables false
set_option linter.unusedSimpArgs false
namespace Go.Proofs.Ytegnghbgkiddoaa.Q
open Go Go.RowKit Go.Proofs.Ytegnghbgkiddoaa.PA Go.Proofs.YtegnghbgkiddoaaW.PrintWords Go.Proofs.YtegnghbgkiddoaaW.PrintLast

/-! ### costs and ways -/
theorem costsOf_ev (n : Int) (l : List S44) : ∃ ds, Ev (fun k => impl_CostsOf.f k n l) ds ∧ Ev (fun k => spec_CostsOf.f k n l) ds ∧
    ((cv n l = false ∧ ds = []) ∨ ∃ m : Nat, n = (m : Int) ∧ Vd m l ∧ Cs m (l.map cbOf) ds) := by
  by_cases hc : cv n l = true
  · obtain ⟨m, rfl, hV⟩ := cv_elim hc
    obtain ⟨ds, h1, h2, h3⟩ := costs_ev hV
    refine ⟨ds, ?_, ?_, .inr ⟨m, rfl, hV, h1⟩⟩
    · simp only [impl_CostsOf.f]
      exact evS (implCables_eq _ _) (evT hc (Ev.bind h2 (Ev.now _)))
    · simp only [spec_CostsOf.f]
      exact Ev.bind (specCables_ev _ _) (evT hc (Ev.bind h3 (Ev.now _)))
  · refine ⟨[], ?_, ?_, .inl ⟨cv_false hc, rfl⟩⟩
    · simp only [impl_CostsOf.f]
      exact evS (implCables_eq _ _) (evF hc (Ev.now _))
    · simp only [spec_CostsOf.f]
      exact Ev.bind (specCables_ev _ _) (evF hc (Ev.now _))

end Go.Proofs.Ytegnghbgkiddoaa.Q
