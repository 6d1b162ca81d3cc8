/- Plain lemmas on what the printed functions compute (seat Ytegkgandlpiobaa, module Qr). Conditions: each lemma's own. -/
import Derived.Test.YtegkgandlpiobaaQf
import Derived.Test.YtegkgandlpiobaaQg
import Derived.Test.YtegkgandlpiobaaPA0
import Derived.Test.YtegkgandlpiobaaPA27
set_option linter.unusedVariables false
set_option linter.unusedSimpArgs false
namespace Go.Proofs.Ytegkgandlpiobaa.Q
open Go Go.RowKit Go.Proofs.Ytegkgandlpiobaa.PA Go.Proofs.YtegkgandlpiobaaW.PrintWords Go.Proofs.YtegkgandlpiobaaW.PrintLast

/-! ### lines that are read -/
def readLine (l : List Int) (w : Int) : List Int × Bool := if (levelsFrom l w).2 = true then bitsOf (levelsFrom l w).1 else ([], false)
theorem readLine_len (l : List Int) (w : Int) : (readLine l w).1.length ≤ 200 := by
  unfold readLine
  split
  · exact bits_len _
  · simp
theorem implRead_ev (l : List Int) (hl : l.length ≤ 1000000000000) (w : Int) : Ev (fun k => impl_ReadLine.f k l w) (readLine l w) := by
  simp only [impl_ReadLine.f]
  refine Ev.bind (implFrom_ev l hl w) ?_
  by_cases c : (levelsFrom l w).2 = true
  · have e : readLine l w = bitsOf (levelsFrom l w).1 := if_pos c
    rw [e]
    exact evT c (evS (implBits_eq _) (Ev.now _))
  · have e : readLine l w = ([], false) := if_neg c
    rw [e]
    exact evF c (Ev.now _)
theorem specRead_ev (l : List Int) (hl : l.length ≤ 1000000000000) (w : Int) : Ev (fun k => spec_ReadLine.f k l w) (readLine l w) := by
  have hs := levelsFrom_len l w
  simp only [spec_ReadLine.f]
  refine Ev.bind (specFrom_ev l hl w) ?_
  by_cases c : (levelsFrom l w).2 = true
  · have e : readLine l w = bitsOf (levelsFrom l w).1 := if_pos c
    rw [e]
    exact evT c (Ev.bind (specBits_ev _ (by omega)) (Ev.now _))
  · have e : readLine l w = ([], false) := if_neg c
    rw [e]
    exact evF c (Ev.now _)

end Go.Proofs.Ytegkgandlpiobaa.Q
