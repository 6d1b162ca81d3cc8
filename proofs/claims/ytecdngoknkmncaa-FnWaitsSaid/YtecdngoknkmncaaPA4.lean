-- Laid by this session's own program (pr.py) over the translation; Lean checks it.
import Derived.Test.YtecdngoknkmncaaPA0
namespace Go.Proofs.Ytecdngoknkmncaa.PA
open Go.RowKit Go.Proofs.YtecdngoknkmncaaW.PrintWords Go.Proofs.YtecdngoknkmncaaW.PrintLast Go.Proofs.YtecdngoknkmncaaW.PrintMore
attribute [local go_sem] max2_int min2_int max_two min_two max_three min_three max_four min_four   -- for this text's walks alone
set_option linter.unusedVariables false
set_option linter.unusedSimpArgs false

/-! ### impl_within: function 24 -/
def impl_within.f (a0 : Int) (a1 : Int) (a2 : Int) : Option (Bool) := if a1 ≤ a0 then (some (decide (a0 ≤ a2))) else (some false)
set_option maxHeartbeats 8000000 in
set_option maxRecDepth 100000 in
theorem impl_within.calls (a0 : Int) (a1 : Int) (a2 : Int) (r : Bool) (w : World) (h : impl_within.f a0 a1 a2 = some r) :
  Calls Try.prog 24 #[.int .i64 a0, .int .i64 a1, .int .i64 a2] w fun e w' => e = .returned (.bool r) ∧ Drawn0 w w' := by
 have H : (if a1 ≤ a0 then (some (decide (a0 ≤ a2))) else (some false)) = some r := h
 clear h
 by_cases c4 : a1 ≤ a0
 ·rw [if_pos c4] at H
  have c4b0 : decide (a1 ≤ a0) = true := decide_eq_true c4
  clear c4
  obtain rfl := Option.some.inj H
  go_enter Try.func24, Try.ntmps24
  go_wp2
  go_ret
  exact ⟨by first | rfl | (simp; done) | (simp [*]; done), by repeat (first | exact Drawn0.refl _ | apply Drawn0.step)⟩
 ·rw [if_neg c4] at H
  have c4b0 : decide (a1 ≤ a0) = false := decide_eq_false c4
  clear c4
  obtain rfl := Option.some.inj H
  go_enter Try.func24, Try.ntmps24
  go_wp2
  go_ret
  exact ⟨by first | rfl | (simp; done) | (simp [*]; done), by repeat (first | exact Drawn0.refl _ | apply Drawn0.step)⟩

/-! ### impl_weightsOk: function 23 -/
def impl_weightsOk.f (l0 : List Int) : Option (Bool) := some (decide (1 ≤ (l0.length : Int) ∧ (l0.length : Int) ≤ 4) && l0.all (fun x => decide (1 ≤ x ∧ x ≤ 9)))
def impl_weightsOk.inB (a b c : Int) : Bool := decide (b ≤ a ∧ a ≤ c)
theorem impl_weightsOk.within (a b c : Int) (w : World) : Calls Try.prog 24 #[.int .i64 a, .int .i64 b, .int .i64 c] w fun e w' => e = .returned (.bool (impl_weightsOk.inB a b c)) ∧ Drawn0 w w' :=
 impl_within.calls a b c _ w (by unfold impl_within.f impl_weightsOk.inB; by_cases h : b ≤ a <;> simp [h])
set_option maxHeartbeats 4000000 in
theorem impl_weightsOk.pred (w : World) : H.PredInt 37 #[] (fun x => impl_weightsOk.inB x 1 9) w := by
 intro W x hb
 clear hb
 show Calls Try.prog 37 #[.int .i64 x] W fun e w' => e = .returned (.bool (impl_weightsOk.inB x 1 9)) ∧ Below W.heap.size W w'
 have HBW := Aside0.mk (Below.refl W.heap.size W)
 generalize hq : impl_weightsOk.inB x 1 9 = b
 go_enter Try.func37, Try.ntmps37
 go_wp2_with fail
 refine (impl_weightsOk.within _ _ _ _).mono ?_
 rintro e w' ⟨rfl, ⟨nd, rfl⟩⟩
 go_wp2_with fail
 go_ret
 exact ⟨rfl, by repeat (first | (with_reducible first | exact HBW.out | apply below_alloc | apply pw_below_drewN | apply below_drew1) | exact HBW.out)⟩
set_option maxHeartbeats 4000000 in
theorem impl_weightsOk.calls (A0 : Option Addr) (c0 : Nat) (l0 : List Int) (r : Bool) (w : World) (hr0 : Kd.C (Kd.int .i64) w A0 l0.length l0) (hc0 : l0.length ≤ c0) (h : impl_weightsOk.f l0 = some r) :
  Calls Try.prog 23 #[.slice A0 l0.length c0] w fun e w' => e = .returned (.bool r) ∧ Below w.heap.size w w' := by
 have e1 : ∀ args w, (callFunc 37 args).run Try.prog w = .ok (.enter 37 args) w := enters_of Try.func37 (by kernel_rfl) rfl
 unfold impl_weightsOk.f at h
 obtain rfl := Option.some.inj h
 clear h
 have HB1 := Aside0.mk (Below.refl w.heap.size w)
 by_cases p1 : 1 ≤ (l0.length : Int) ∧ (l0.length : Int) ≤ 4
 ·have q0 : impl_weightsOk.inB (l0.length : Int) 1 4 = true := decide_eq_true p1
  rw [show decide (1 ≤ (l0.length : Int) ∧ (l0.length : Int) ≤ 4) = true from q0, Bool.true_and]
  have hall := fun nd => H.all_int _ 37 #[] e1 A0 c0 l0 (w.drewN nd) (impl_weightsOk.pred _) (Kd.C_drewN hr0 nd)
  have HALL := Aside0.mk hall
  clear hall e1 hr0 hc0
  have HX := Aside0.mk (show (l0.all fun x => impl_weightsOk.inB x 1 9) = (l0.all (fun x => decide (1 ≤ x ∧ x ≤ 9))) from rfl)
  generalize (l0.all (fun x => decide (1 ≤ x ∧ x ≤ 9))) = b at HX ⊢
  rw [HX.out] at HALL
  clear HX p1
  go_enter Try.func23, Try.ntmps23
  go_wp2_with (first | (go_at_call 24; refine (impl_weightsOk.within _ _ _ _).mono ?_; rintro e w' ⟨rfl, ⟨nd, rfl⟩⟩))
  refine (HALL.out _).mono ?_
  clear HALL
  rintro e w' ⟨rfl, hb⟩
  have HB2 := Aside0.mk (below_then (pw_below_drewN HB1.out _) (by simp) hb)
  clear hb
  go_wp2_with fail
  go_ret
  exact ⟨rfl, by repeat (first | (with_reducible first | exact HB2.out | apply below_alloc | apply pw_below_drewN | apply below_drew1) | exact HB2.out)⟩
 ·have q0 : impl_weightsOk.inB (l0.length : Int) 1 4 = false := decide_eq_false p1
  rw [show decide (1 ≤ (l0.length : Int) ∧ (l0.length : Int) ≤ 4) = false from q0]
  clear hr0 hc0 p1
  go_enter Try.func23, Try.ntmps23
  go_wp2_with (first | (go_at_call 24; refine (impl_weightsOk.within _ _ _ _).mono ?_; rintro e w' ⟨rfl, ⟨nd, rfl⟩⟩))
  go_ret
  exact ⟨rfl, by repeat (first | (with_reducible first | exact HB1.out | apply below_alloc | apply pw_below_drewN | apply below_drew1) | exact HB1.out)⟩

end Go.Proofs.Ytecdngoknkmncaa.PA
