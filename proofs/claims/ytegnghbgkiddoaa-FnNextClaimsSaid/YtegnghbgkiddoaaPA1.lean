-- Laid by this session's own program (pr.py) over the translation; Lean checks it.
import Derived.Test.YtegnghbgkiddoaaPA0
import Derived.Test.YtegnghbgkiddoaaHSq
namespace Go.Proofs.Ytegnghbgkiddoaa.PA
open Go.RowKit Go.Proofs.YtegnghbgkiddoaaW.PrintWords Go.Proofs.YtegnghbgkiddoaaW.PrintLast Go.Proofs.YtegnghbgkiddoaaW.PrintMore
attribute [local go_sem] max2_int min2_int max_two min_two max_three min_three max_four min_four   -- for this text's walks alone
set_option linter.unusedVariables false
set_option linter.unusedSimpArgs false

/-! ### impl_within: function 70 -/
-- IMPORT HSq
def impl_within.f (a0 : Int) (a1 : Int) (a2 : Int) : Option (Bool) := if a1 ≤ a0 then (some (decide (a0 ≤ a2))) else (some false)
set_option maxHeartbeats 8000000 in
set_option maxRecDepth 100000 in
theorem impl_within.calls (a0 : Int) (a1 : Int) (a2 : Int) (r : Bool) (w : World) (h : impl_within.f a0 a1 a2 = some r) :
  Calls Try.prog 70 #[.int .i64 a0, .int .i64 a1, .int .i64 a2] w fun e w' => e = .returned (.bool r) ∧ Drawn0 w w' := by
 have H : (if a1 ≤ a0 then (some (decide (a0 ≤ a2))) else (some false)) = some r := h
 clear h
 by_cases c4 : a1 ≤ a0
 ·rw [if_pos c4] at H
  have c4b0 : decide (a1 ≤ a0) = true := decide_eq_true c4
  clear c4
  obtain rfl := Option.some.inj H
  go_enter Try.func70, Try.ntmps70
  go_wp2
  go_ret
  exact ⟨fs, by repeat (first | exact Drawn0.refl _ | apply Drawn0.step)⟩
 ·rw [if_neg c4] at H
  have c4b0 : decide (a1 ≤ a0) = false := decide_eq_false c4
  clear c4
  obtain rfl := Option.some.inj H
  go_enter Try.func70, Try.ntmps70
  go_wp2
  go_ret
  exact ⟨fs, by repeat (first | exact Drawn0.refl _ | apply Drawn0.step)⟩

-- NOT PRINTED: function 121 (impl_Cable_121)

-- NOT PRINTED: function 98 (impl_Cable_98)

-- NOT PRINTED: function 72 (impl_Cable_72)

-- NOT PRINTED: function 133 (slices_xorshift_Next)

-- NOT PRINTED: function 112 (slices_breakPatternsOrdered_int)

-- NOT PRINTED: function 138 (slices_order2Ordered_int)

-- NOT PRINTED: function 135 (slices_medianOrdered_int)

-- NOT PRINTED: function 134 (slices_medianAdjacentOrdered_int)

-- NOT PRINTED: function 113 (slices_choosePivotOrdered_int)

-- NOT PRINTED: function 96 (slices_pdqsortOrdered_int)

-- NOT PRINTED: function 122 (slices_IndexFunc_int_int_122)

-- NOT PRINTED: function 101 (slices_ContainsFunc_int_int_101)

-- NOT PRINTED: function 79 (impl_all_int_79)

-- NOT PRINTED: function 141 (slices_IndexFunc_int_int_141)

-- NOT PRINTED: function 139 (slices_ContainsFunc_int_int_139)

-- NOT PRINTED: function 136 (impl_all_int_136)

end Go.Proofs.Ytegnghbgkiddoaa.PA
