-- Laid by this session's own program (pr.py) over the translation; Lean checks it.
import Derived.Test.YtegnghbgkiddoaaPA0
import Derived.Test.YtegnghbgkiddoaaPA17
import Derived.Test.YtegnghbgkiddoaaPA27
import Derived.Test.YtegnghbgkiddoaaPA30
import Derived.Test.YtegnghbgkiddoaaPA32
import Derived.Test.YtegnghbgkiddoaaPA33
import Derived.Test.YtegnghbgkiddoaaPA36
namespace Go.Proofs.Ytegnghbgkiddoaa.PA
open Go.RowKit Go.Proofs.YtegnghbgkiddoaaW.PrintWords Go.Proofs.YtegnghbgkiddoaaW.PrintLast Go.Proofs.YtegnghbgkiddoaaW.PrintMore
attribute [local go_sem] max2_int min2_int max_two min_two max_three min_three max_four min_four   -- for this text's walks alone
set_option linter.unusedVariables false
set_option linter.unusedSimpArgs false

/-! ### laws_FnClaimsBetter: function 13 -/
mutual
def laws_FnClaimsBetter.j0 : Nat → Int → List (S44) → Int → List (List Int) → Bool → Option (Bool)
 | 0, _, _, _, _, _ => none
 | k + 1, x3, x4, x5, x6, x33 => if x33 = true then ((spec_ClaimsAfter.f k x3 x4 x5).bind fun t861 => ((laws_wnPairs.f k x6 t861).bind fun t864 => (if t864 = true then ((impl_FirstClaims.f k x3).bind fun t865 => ((spec_FirstClaims.f k x3).bind fun t868 => ((laws_wnPairs.f k t865 t868).bind fun t871 => (some t871)))) else (some false)))) else ((impl_NextClaims.f k x3 x4 x6).bind fun t872 => (laws_FnClaimsBetter.l0 k x3 x6 t872 x3 0))
def laws_FnClaimsBetter.l0 : Nat → Int → List (List Int) → List (List Int) → Int → Int → Option (Bool)
 | 0, _, _, _, _, _ => none
 | k + 1, x3, x6, x7, x51, x52 => if x52 < x51 then (if 0 ≤ x52 then (if x52 < (x7.length : Int) then (if 0 < ((rd_L5 x7 x52).length : Int) then (if x52 < (x6.length : Int) then (if 0 < ((rd_L5 x6 x52).length : Int) then (if (rd (rd_L5 x7 x52) 0) > (rd (rd_L5 x6 x52) 0) then (some false) else (if (rd (rd_L5 x7 x52) 0) = (rd (rd_L5 x6 x52) 0) then (if 1 < ((rd_L5 x7 x52).length : Int) then (if 1 < ((rd_L5 x6 x52).length : Int) then (if (rd (rd_L5 x7 x52) 1) > (rd (rd_L5 x6 x52) 1) then (some false) else (laws_FnClaimsBetter.l0 k x3 x6 x7 x51 (wrap64 (x52 + 1)))) else (none)) else (none)) else (laws_FnClaimsBetter.l0 k x3 x6 x7 x51 (wrap64 (x52 + 1))))) else (none)) else (none)) else (none)) else (none)) else (none)) else (some ((x7.length : Int) == x3))
end
def laws_FnClaimsBetter.f (k : Nat) (l0 : List Int) : Option (Bool) := if (l0.length : Int) > 1048576 then (some true) else ((spec_DrawClaimsAfter.f k l0).bind fun bt849 => ((impl_ClaimsAfter.f k bt849.1 bt849.2.1 bt849.2.2).bind fun t854 => ((spec_ClaimsAfter.f k bt849.1 bt849.2.1 bt849.2.2).bind fun t857 => ((laws_wnPairs.f k t854 t857).bind fun t860 => (if t860 = true then (laws_FnClaimsBetter.j0 k bt849.1 bt849.2.1 bt849.2.2 t854 ((t854.length : Int) == 0)) else (laws_FnClaimsBetter.j0 k bt849.1 bt849.2.1 bt849.2.2 t854 true))))))
theorem laws_FnClaimsBetter.mono_l : ∀ k, (∀ y0 y1 y2 y3 y4, LeO (laws_FnClaimsBetter.j0 k y0 y1 y2 y3 y4) (laws_FnClaimsBetter.j0 (k + 1) y0 y1 y2 y3 y4)) ∧ (∀ y0 y1 y2 y3 y4, LeO (laws_FnClaimsBetter.l0 k y0 y1 y2 y3 y4) (laws_FnClaimsBetter.l0 (k + 1) y0 y1 y2 y3 y4))
 | 0 => ⟨fun _ _ _ _ _ r h => by simp [laws_FnClaimsBetter.j0] at h, fun _ _ _ _ _ r h => by simp [laws_FnClaimsBetter.l0] at h⟩
 | k + 1 => by
  obtain ⟨ih0, ih1⟩ := laws_FnClaimsBetter.mono_l k
  refine ⟨?_, ?_⟩
  ·intro y0 y1 y2 y3 y4
   unfold laws_FnClaimsBetter.j0
   repeat' first
   | (with_reducible exact ih0 _ _ _ _ _)
   | (with_reducible exact ih1 _ _ _ _ _)
   | (with_reducible exact impl_ClaimsAfter.mono _ _ _ _)
   | (with_reducible exact impl_FirstClaims.mono _ _)
   | (with_reducible exact impl_NextClaims.mono _ _ _ _)
   | (with_reducible exact laws_wnPairs.mono _ _ _)
   | (with_reducible exact spec_ClaimsAfter.mono _ _ _ _)
   | (with_reducible exact spec_DrawClaimsAfter.mono _ _)
   | (with_reducible exact spec_FirstClaims.mono _ _)
   | (with_reducible exact LeO.refl _)
   | (with_reducible exact LeO.none _)
   | (with_reducible refine LeO.ite ?_ ?_)
   | (with_reducible refine LeO.bind ?_ (fun _ => ?_))
   | exact ih0 _ _ _ _ _
   | exact ih1 _ _ _ _ _
   | exact impl_ClaimsAfter.mono _ _ _ _
   | exact impl_FirstClaims.mono _ _
   | exact impl_NextClaims.mono _ _ _ _
   | exact laws_wnPairs.mono _ _ _
   | exact spec_ClaimsAfter.mono _ _ _ _
   | exact spec_DrawClaimsAfter.mono _ _
   | exact spec_FirstClaims.mono _ _
   | exact LeO.none _
   | refine LeO.ite ?_ ?_
   | refine LeO.bind ?_ (fun _ => ?_)
  ·intro y0 y1 y2 y3 y4
   unfold laws_FnClaimsBetter.l0
   repeat' first
   | (with_reducible exact ih0 _ _ _ _ _)
   | (with_reducible exact ih1 _ _ _ _ _)
   | (with_reducible exact impl_ClaimsAfter.mono _ _ _ _)
   | (with_reducible exact impl_FirstClaims.mono _ _)
   | (with_reducible exact impl_NextClaims.mono _ _ _ _)
   | (with_reducible exact laws_wnPairs.mono _ _ _)
   | (with_reducible exact spec_ClaimsAfter.mono _ _ _ _)
   | (with_reducible exact spec_DrawClaimsAfter.mono _ _)
   | (with_reducible exact spec_FirstClaims.mono _ _)
   | (with_reducible exact LeO.refl _)
   | (with_reducible exact LeO.none _)
   | (with_reducible refine LeO.ite ?_ ?_)
   | (with_reducible refine LeO.bind ?_ (fun _ => ?_))
   | exact ih0 _ _ _ _ _
   | exact ih1 _ _ _ _ _
   | exact impl_ClaimsAfter.mono _ _ _ _
   | exact impl_FirstClaims.mono _ _
   | exact impl_NextClaims.mono _ _ _ _
   | exact laws_wnPairs.mono _ _ _
   | exact spec_ClaimsAfter.mono _ _ _ _
   | exact spec_DrawClaimsAfter.mono _ _
   | exact spec_FirstClaims.mono _ _
   | exact LeO.none _
   | refine LeO.ite ?_ ?_
   | refine LeO.bind ?_ (fun _ => ?_)
theorem laws_FnClaimsBetter.mono : ∀ a0 k, LeO (laws_FnClaimsBetter.f k a0) (laws_FnClaimsBetter.f (k + 1) a0) := by
 intro a0 k
 obtain ⟨ih0, ih1⟩ := laws_FnClaimsBetter.mono_l k
 unfold laws_FnClaimsBetter.f
 repeat' first
   | (with_reducible exact ih0 _ _ _ _ _)
   | (with_reducible exact ih1 _ _ _ _ _)
   | (with_reducible exact impl_ClaimsAfter.mono _ _ _ _)
   | (with_reducible exact impl_FirstClaims.mono _ _)
   | (with_reducible exact impl_NextClaims.mono _ _ _ _)
   | (with_reducible exact laws_wnPairs.mono _ _ _)
   | (with_reducible exact spec_ClaimsAfter.mono _ _ _ _)
   | (with_reducible exact spec_DrawClaimsAfter.mono _ _)
   | (with_reducible exact spec_FirstClaims.mono _ _)
   | (with_reducible exact LeO.refl _)
   | (with_reducible exact LeO.none _)
   | (with_reducible refine LeO.ite ?_ ?_)
   | (with_reducible refine LeO.bind ?_ (fun _ => ?_))
   | exact ih0 _ _ _ _ _
   | exact ih1 _ _ _ _ _
   | exact impl_ClaimsAfter.mono _ _ _ _
   | exact impl_FirstClaims.mono _ _
   | exact impl_NextClaims.mono _ _ _ _
   | exact laws_wnPairs.mono _ _ _
   | exact spec_ClaimsAfter.mono _ _ _ _
   | exact spec_DrawClaimsAfter.mono _ _
   | exact spec_FirstClaims.mono _ _
   | exact LeO.none _
   | refine LeO.ite ?_ ?_
   | refine LeO.bind ?_ (fun _ => ?_)
set_option maxHeartbeats 8000000 in
set_option maxRecDepth 100000 in
theorem laws_FnClaimsBetter.calls (k : Nat) (A0 : Option Addr) (c0 : Nat) (l0 : List Int) (r : Bool) (w : World) (hr0 : Kd.C (Kd.int .u8) w A0 l0.length l0) (hc0 : l0.length ≤ c0) (h : laws_FnClaimsBetter.f k l0 = some r) :
  Calls Try.prog 13 #[.slice A0 l0.length c0] w fun e w' => e = .returned (.bool r) ∧ Below w.heap.size w w' := by
 have HR0 := Aside0.mk hr0
 have HC0 := Aside0.mk hc0
 clear hr0 hc0
 have HB := Aside0.mk (Below.refl w.heap.size w)
 have H : (if (l0.length : Int) > 1048576 then (some true) else ((spec_DrawClaimsAfter.f k l0).bind fun bt849 => ((impl_ClaimsAfter.f k bt849.1 bt849.2.1 bt849.2.2).bind fun t854 => ((spec_ClaimsAfter.f k bt849.1 bt849.2.1 bt849.2.2).bind fun t857 => ((laws_wnPairs.f k t854 t857).bind fun t860 => (if t860 = true then (laws_FnClaimsBetter.j0 k bt849.1 bt849.2.1 bt849.2.2 t854 ((t854.length : Int) == 0)) else (laws_FnClaimsBetter.j0 k bt849.1 bt849.2.1 bt849.2.2 t854 true))))))) = some r := h
 clear h
 by_cases c2 : (l0.length : Int) > 1048576
 ·rw [if_pos c2] at H
  have c2b0 : decide (1048576 < (l0.length : Int)) = true := decide_eq_true c2
  have c2b1 : decide (1048576 < l0.length) = true := decide_eq_true (by omega)
  clear c2
  obtain rfl := Option.some.inj H
  go_enter Try.func13, Try.ntmps13
  go_wp2
  repeat (go_quiet (fail); try go_wp2)
  go_ret
  exact ⟨by first | rfl | (simp [errW_none, errW_some] <;> rfl) | (simp [*, errW_none, errW_some] <;> rfl), by repeat (first | (with_reducible first | exact HB.out | apply below_alloc | apply pw_below_drewN | apply below_drew1) | exact HB.out)⟩
 ·rw [if_neg c2] at H
  have c2b0 : decide (1048576 < (l0.length : Int)) = false := decide_eq_false c2
  have c2b1 : decide (1048576 < l0.length) = false := decide_eq_false (by omega)
  clear c2
  replace H := Option.bind_eq_some_iff.mp H
  obtain ⟨⟨t849, t850, t851⟩, A30, H⟩ := H
  replace H : ((impl_ClaimsAfter.f k t849 t850 t851).bind fun t854 => ((spec_ClaimsAfter.f k t849 t850 t851).bind fun t857 => ((laws_wnPairs.f k t854 t857).bind fun t860 => (if t860 = true then (laws_FnClaimsBetter.j0 k t849 t850 t851 t854 ((t854.length : Int) == 0)) else (laws_FnClaimsBetter.j0 k t849 t850 t851 t854 true))))) = some r := H
  have A3 := Aside0.mk A30
  clear A30
  replace H := Option.bind_eq_some_iff.mp H
  obtain ⟨t854, A40, H⟩ := H
  replace H : ((spec_ClaimsAfter.f k t849 t850 t851).bind fun t857 => ((laws_wnPairs.f k t854 t857).bind fun t860 => (if t860 = true then (laws_FnClaimsBetter.j0 k t849 t850 t851 t854 ((t854.length : Int) == 0)) else (laws_FnClaimsBetter.j0 k t849 t850 t851 t854 true)))) = some r := H
  have A4 := Aside0.mk A40
  clear A40
  have HC5 := Aside0.mk H
  clear H
  go_enter Try.func13, Try.ntmps13
  go_upto_region 5 with (first | (go_at_call 42; (with_reducible refine (spec_DrawClaimsAfter.calls k _ _ l0 t849 t850 t851 _ ?side1 ?side2 A3.out).mono ?_); (case side1 => repeat (first | exact HR0.out | (with_reducible refine Kd.C_alloc ?_ _) | (with_reducible refine Kd.C_drewN ?_ _) | (with_reducible refine Kd.C_drew ?_))); (case side2 => exact HC0.out); rintro e w6 ⟨v852, rfl, ho0, hb⟩; have n0_ := Aside0.mk (Kd.R_lower ho0 (below_size (by repeat (first | (with_reducible first | exact HB.out | apply below_alloc | apply pw_below_drewN | apply below_drew1) | exact HB.out)))); have n1_ := Aside0.mk (below_step (by repeat (first | (with_reducible first | exact HB.out | apply below_alloc | apply pw_below_drewN | apply below_drew1) | exact HB.out)) hb); clear HB; have HO853 := n0_; have HB := n1_; clear n0_ n1_; (try clear hb); (try clear hb2); (try clear hk); (try clear hi); (try clear ho0); obtain ⟨Ao7, co7, eo7⟩ := Kd.R_slice HO853.out; subst eo7) | (go_at_call 43; (with_reducible refine (impl_ClaimsAfter.calls k t849 _ _ t850 t851 t854 _ ?side1 ?side2 A4.out).mono ?_); (case side1 => repeat (first | exact (Kd.R_reads' HO853.out).2.2 | (with_reducible refine Kd.C_alloc ?_ _) | (with_reducible refine Kd.C_drewN ?_ _) | (with_reducible refine Kd.C_drew ?_))); (case side2 => exact (Kd.R_reads' HO853.out).2.1); rintro e w8 ⟨v855, rfl, ho0, hb⟩; have n0_ := Aside0.mk (Kd.R_below (by (with_reducible repeat (first | apply Kd.R_alloc | apply Kd.R_drewN | apply Kd.R_drew)); exact HO853.out) hb); have n1_ := Aside0.mk (Kd.S_lower ho0 (below_size (by repeat (first | (with_reducible first | exact HB.out | apply below_alloc | apply pw_below_drewN | apply below_drew1) | exact HB.out)))); have n2_ := Aside0.mk (below_step (by repeat (first | (with_reducible first | exact HB.out | apply below_alloc | apply pw_below_drewN | apply below_drew1) | exact HB.out)) hb); clear HO853; clear HB; have HO853 := n0_; have HO856 := n1_; have HB := n2_; clear n0_ n1_ n2_; (try clear hb); (try clear hb2); (try clear hk); (try clear hi); (try clear ho0)))
  repeat (go_quiet (first | (go_at_call 42; (with_reducible refine (spec_DrawClaimsAfter.calls k _ _ l0 t849 t850 t851 _ ?side1 ?side2 A3.out).mono ?_); (case side1 => repeat (first | exact HR0.out | (with_reducible refine Kd.C_alloc ?_ _) | (with_reducible refine Kd.C_drewN ?_ _) | (with_reducible refine Kd.C_drew ?_))); (case side2 => exact HC0.out); rintro e w6 ⟨v852, rfl, ho0, hb⟩; have n0_ := Aside0.mk (Kd.R_lower ho0 (below_size (by repeat (first | (with_reducible first | exact HB.out | apply below_alloc | apply pw_below_drewN | apply below_drew1) | exact HB.out)))); have n1_ := Aside0.mk (below_step (by repeat (first | (with_reducible first | exact HB.out | apply below_alloc | apply pw_below_drewN | apply below_drew1) | exact HB.out)) hb); clear HB; have HO853 := n0_; have HB := n1_; clear n0_ n1_; (try clear hb); (try clear hb2); (try clear hk); (try clear hi); (try clear ho0); obtain ⟨Ao7, co7, eo7⟩ := Kd.R_slice HO853.out; subst eo7) | (go_at_call 43; (with_reducible refine (impl_ClaimsAfter.calls k t849 _ _ t850 t851 t854 _ ?side1 ?side2 A4.out).mono ?_); (case side1 => repeat (first | exact (Kd.R_reads' HO853.out).2.2 | (with_reducible refine Kd.C_alloc ?_ _) | (with_reducible refine Kd.C_drewN ?_ _) | (with_reducible refine Kd.C_drew ?_))); (case side2 => exact (Kd.R_reads' HO853.out).2.1); rintro e w8 ⟨v855, rfl, ho0, hb⟩; have n0_ := Aside0.mk (Kd.R_below (by (with_reducible repeat (first | apply Kd.R_alloc | apply Kd.R_drewN | apply Kd.R_drew)); exact HO853.out) hb); have n1_ := Aside0.mk (Kd.S_lower ho0 (below_size (by repeat (first | (with_reducible first | exact HB.out | apply below_alloc | apply pw_below_drewN | apply below_drew1) | exact HB.out)))); have n2_ := Aside0.mk (below_step (by repeat (first | (with_reducible first | exact HB.out | apply below_alloc | apply pw_below_drewN | apply below_drew1) | exact HB.out)) hb); clear HO853; clear HB; have HO853 := n0_; have HO856 := n1_; have HB := n2_; clear n0_ n1_ n2_; (try clear hb); (try clear hb2); (try clear hk); (try clear hi); (try clear ho0))); go_upto_region 5 with (first | (go_at_call 42; (with_reducible refine (spec_DrawClaimsAfter.calls k _ _ l0 t849 t850 t851 _ ?side1 ?side2 A3.out).mono ?_); (case side1 => repeat (first | exact HR0.out | (with_reducible refine Kd.C_alloc ?_ _) | (with_reducible refine Kd.C_drewN ?_ _) | (with_reducible refine Kd.C_drew ?_))); (case side2 => exact HC0.out); rintro e w6 ⟨v852, rfl, ho0, hb⟩; have n0_ := Aside0.mk (Kd.R_lower ho0 (below_size (by repeat (first | (with_reducible first | exact HB.out | apply below_alloc | apply pw_below_drewN | apply below_drew1) | exact HB.out)))); have n1_ := Aside0.mk (below_step (by repeat (first | (with_reducible first | exact HB.out | apply below_alloc | apply pw_below_drewN | apply below_drew1) | exact HB.out)) hb); clear HB; have HO853 := n0_; have HB := n1_; clear n0_ n1_; (try clear hb); (try clear hb2); (try clear hk); (try clear hi); (try clear ho0); obtain ⟨Ao7, co7, eo7⟩ := Kd.R_slice HO853.out; subst eo7) | (go_at_call 43; (with_reducible refine (impl_ClaimsAfter.calls k t849 _ _ t850 t851 t854 _ ?side1 ?side2 A4.out).mono ?_); (case side1 => repeat (first | exact (Kd.R_reads' HO853.out).2.2 | (with_reducible refine Kd.C_alloc ?_ _) | (with_reducible refine Kd.C_drewN ?_ _) | (with_reducible refine Kd.C_drew ?_))); (case side2 => exact (Kd.R_reads' HO853.out).2.1); rintro e w8 ⟨v855, rfl, ho0, hb⟩; have n0_ := Aside0.mk (Kd.R_below (by (with_reducible repeat (first | apply Kd.R_alloc | apply Kd.R_drewN | apply Kd.R_drew)); exact HO853.out) hb); have n1_ := Aside0.mk (Kd.S_lower ho0 (below_size (by repeat (first | (with_reducible first | exact HB.out | apply below_alloc | apply pw_below_drewN | apply below_drew1) | exact HB.out)))); have n2_ := Aside0.mk (below_step (by repeat (first | (with_reducible first | exact HB.out | apply below_alloc | apply pw_below_drewN | apply below_drew1) | exact HB.out)) hb); clear HO853; clear HB; have HO853 := n0_; have HO856 := n1_; have HB := n2_; clear n0_ n1_ n2_; (try clear hb); (try clear hb2); (try clear hk); (try clear hi); (try clear ho0))))
  (try simp only [Act.put, List.setIfInBounds_toArray, List.set_cons_zero, List.set_cons_succ])
  go_cut [33] (fun v33 wc => ∃ (kq : Nat) (x33_4 : Bool), v33 = .bool x33_4 ∧ Aside0 (laws_FnClaimsBetter.j0 kq t849 t850 t851 t854 x33_4 = some r) ∧ Aside0 (kq ≤ k) ∧ Aside0 (Kd.R k44 44 wc w.heap.size (fun _ => True) (.slice Ao7 t850.length co7) t850) ∧ Aside0 (Kd.S (Kd.slice 3 (Kd.int .i64)) 24 wc w.heap.size (fun _ => True) v855 t854) ∧ Aside0 (Below w.heap.size w wc))
  case first =>
   have H := HC5.out
   clear HC5
   replace H := Option.bind_eq_some_iff.mp H
   obtain ⟨t857, A90, H⟩ := H
   replace H : ((laws_wnPairs.f k t854 t857).bind fun t860 => (if t860 = true then (laws_FnClaimsBetter.j0 k t849 t850 t851 t854 ((t854.length : Int) == 0)) else (laws_FnClaimsBetter.j0 k t849 t850 t851 t854 true))) = some r := H
   have A9 := Aside0.mk A90
   clear A90
   replace H := Option.bind_eq_some_iff.mp H
   obtain ⟨t860, A100, H⟩ := H
   replace H : (if t860 = true then (laws_FnClaimsBetter.j0 k t849 t850 t851 t854 ((t854.length : Int) == 0)) else (laws_FnClaimsBetter.j0 k t849 t850 t851 t854 true)) = some r := H
   have A10 := Aside0.mk A100
   clear A100
   by_cases c11 : t860 = true
   ·subst c11
    have H1 : (laws_FnClaimsBetter.j0 k t849 t850 t851 t854 ((t854.length : Int) == 0)) = some r := by rw [if_pos rfl] at H; exact H
    clear H
    have H := H1
    clear H1
    have H' := Aside0.mk H
    clear H
    go_wp2_with (first | (go_at_call 45; (with_reducible refine (spec_ClaimsAfter.calls k t849 _ _ t850 t851 t857 _ ?side1 ?side2 A9.out).mono ?_); (case side1 => repeat (first | exact (Kd.R_reads' HO853.out).2.2 | (with_reducible refine Kd.C_alloc ?_ _) | (with_reducible refine Kd.C_drewN ?_ _) | (with_reducible refine Kd.C_drew ?_))); (case side2 => exact (Kd.R_reads' HO853.out).2.1); rintro e w12 ⟨v858, rfl, ho0, hb⟩; have n0_ := Aside0.mk (Kd.R_below (by (with_reducible repeat (first | apply Kd.R_alloc | apply Kd.R_drewN | apply Kd.R_drew)); exact HO853.out) hb); have n1_ := Aside0.mk (Kd.S_elder' (by (with_reducible repeat (first | apply Kd.S_alloc | apply Kd.S_drewN | apply Kd.S_drew)); exact HO856.out) (Kd.S_base ho0) hb); have n2_ := Aside0.mk (Kd.S_lower (Kd.S_new' ho0 (Kd.S_lt (by (with_reducible repeat (first | apply Kd.S_alloc | apply Kd.S_drewN | apply Kd.S_drew)); exact HO856.out))) (below_size (by repeat (first | (with_reducible first | exact HB.out | apply below_alloc | apply pw_below_drewN | apply below_drew1) | exact HB.out)))); have n3_ := Aside0.mk (below_step (by repeat (first | (with_reducible first | exact HB.out | apply below_alloc | apply pw_below_drewN | apply below_drew1) | exact HB.out)) hb); clear HO853; clear HO856; clear HB; have HO853 := n0_; have HO856 := n1_; have HO859 := n2_; have HB := n3_; clear n0_ n1_ n2_ n3_; (try clear hb); (try clear hb2); (try clear hk); (try clear hi); (try clear ho0); obtain ⟨Ao13, co13, eo13⟩ := Kd.S_slice HO856.out; subst eo13; obtain ⟨Ao14, co14, eo14⟩ := Kd.S_slice HO859.out; subst eo14) | (go_at_call 44; (with_reducible refine (laws_wnPairs.calls k _ _ t854 _ _ t857 true _ ?side1 ?side2 ?side3 ?side4 A10.out).mono ?_); (case side1 => repeat (first | exact (Kd.S_reads' HO856.out).2.2 | (with_reducible refine Kd.C_alloc ?_ _) | (with_reducible refine Kd.C_drewN ?_ _) | (with_reducible refine Kd.C_drew ?_))); (case side2 => exact (Kd.S_reads' HO856.out).2.1); (case side3 => repeat (first | exact (Kd.S_reads' HO859.out).2.2 | (with_reducible refine Kd.C_alloc ?_ _) | (with_reducible refine Kd.C_drewN ?_ _) | (with_reducible refine Kd.C_drew ?_))); (case side4 => exact (Kd.S_reads' HO859.out).2.1); rintro e w' ⟨rfl, ⟨nd, rfl⟩⟩; (try first | exact ⟨rfl, _, World.drewN_drewN _ _ _⟩ | exact ⟨rfl, _, Eq.trans (World.drewN_drewN _ _ _) (congrArg (World.drewN _) (Nat.add_assoc _ _ _))⟩)))
    repeat (go_quiet (first | (go_at_call 45; (with_reducible refine (spec_ClaimsAfter.calls k t849 _ _ t850 t851 t857 _ ?side1 ?side2 A9.out).mono ?_); (case side1 => repeat (first | exact (Kd.R_reads' HO853.out).2.2 | (with_reducible refine Kd.C_alloc ?_ _) | (with_reducible refine Kd.C_drewN ?_ _) | (with_reducible refine Kd.C_drew ?_))); (case side2 => exact (Kd.R_reads' HO853.out).2.1); rintro e w12 ⟨v858, rfl, ho0, hb⟩; have n0_ := Aside0.mk (Kd.R_below (by (with_reducible repeat (first | apply Kd.R_alloc | apply Kd.R_drewN | apply Kd.R_drew)); exact HO853.out) hb); have n1_ := Aside0.mk (Kd.S_elder' (by (with_reducible repeat (first | apply Kd.S_alloc | apply Kd.S_drewN | apply Kd.S_drew)); exact HO856.out) (Kd.S_base ho0) hb); have n2_ := Aside0.mk (Kd.S_lower (Kd.S_new' ho0 (Kd.S_lt (by (with_reducible repeat (first | apply Kd.S_alloc | apply Kd.S_drewN | apply Kd.S_drew)); exact HO856.out))) (below_size (by repeat (first | (with_reducible first | exact HB.out | apply below_alloc | apply pw_below_drewN | apply below_drew1) | exact HB.out)))); have n3_ := Aside0.mk (below_step (by repeat (first | (with_reducible first | exact HB.out | apply below_alloc | apply pw_below_drewN | apply below_drew1) | exact HB.out)) hb); clear HO853; clear HO856; clear HB; have HO853 := n0_; have HO856 := n1_; have HO859 := n2_; have HB := n3_; clear n0_ n1_ n2_ n3_; (try clear hb); (try clear hb2); (try clear hk); (try clear hi); (try clear ho0); obtain ⟨Ao13, co13, eo13⟩ := Kd.S_slice HO856.out; subst eo13; obtain ⟨Ao14, co14, eo14⟩ := Kd.S_slice HO859.out; subst eo14) | (go_at_call 44; (with_reducible refine (laws_wnPairs.calls k _ _ t854 _ _ t857 true _ ?side1 ?side2 ?side3 ?side4 A10.out).mono ?_); (case side1 => repeat (first | exact (Kd.S_reads' HO856.out).2.2 | (with_reducible refine Kd.C_alloc ?_ _) | (with_reducible refine Kd.C_drewN ?_ _) | (with_reducible refine Kd.C_drew ?_))); (case side2 => exact (Kd.S_reads' HO856.out).2.1); (case side3 => repeat (first | exact (Kd.S_reads' HO859.out).2.2 | (with_reducible refine Kd.C_alloc ?_ _) | (with_reducible refine Kd.C_drewN ?_ _) | (with_reducible refine Kd.C_drew ?_))); (case side4 => exact (Kd.S_reads' HO859.out).2.1); rintro e w' ⟨rfl, ⟨nd, rfl⟩⟩; (try first | exact ⟨rfl, _, World.drewN_drewN _ _ _⟩ | exact ⟨rfl, _, Eq.trans (World.drewN_drewN _ _ _) (congrArg (World.drewN _) (Nat.add_assoc _ _ _))⟩))); try go_wp2_with (first | (go_at_call 45; (with_reducible refine (spec_ClaimsAfter.calls k t849 _ _ t850 t851 t857 _ ?side1 ?side2 A9.out).mono ?_); (case side1 => repeat (first | exact (Kd.R_reads' HO853.out).2.2 | (with_reducible refine Kd.C_alloc ?_ _) | (with_reducible refine Kd.C_drewN ?_ _) | (with_reducible refine Kd.C_drew ?_))); (case side2 => exact (Kd.R_reads' HO853.out).2.1); rintro e w12 ⟨v858, rfl, ho0, hb⟩; have n0_ := Aside0.mk (Kd.R_below (by (with_reducible repeat (first | apply Kd.R_alloc | apply Kd.R_drewN | apply Kd.R_drew)); exact HO853.out) hb); have n1_ := Aside0.mk (Kd.S_elder' (by (with_reducible repeat (first | apply Kd.S_alloc | apply Kd.S_drewN | apply Kd.S_drew)); exact HO856.out) (Kd.S_base ho0) hb); have n2_ := Aside0.mk (Kd.S_lower (Kd.S_new' ho0 (Kd.S_lt (by (with_reducible repeat (first | apply Kd.S_alloc | apply Kd.S_drewN | apply Kd.S_drew)); exact HO856.out))) (below_size (by repeat (first | (with_reducible first | exact HB.out | apply below_alloc | apply pw_below_drewN | apply below_drew1) | exact HB.out)))); have n3_ := Aside0.mk (below_step (by repeat (first | (with_reducible first | exact HB.out | apply below_alloc | apply pw_below_drewN | apply below_drew1) | exact HB.out)) hb); clear HO853; clear HO856; clear HB; have HO853 := n0_; have HO856 := n1_; have HO859 := n2_; have HB := n3_; clear n0_ n1_ n2_ n3_; (try clear hb); (try clear hb2); (try clear hk); (try clear hi); (try clear ho0); obtain ⟨Ao13, co13, eo13⟩ := Kd.S_slice HO856.out; subst eo13; obtain ⟨Ao14, co14, eo14⟩ := Kd.S_slice HO859.out; subst eo14) | (go_at_call 44; (with_reducible refine (laws_wnPairs.calls k _ _ t854 _ _ t857 true _ ?side1 ?side2 ?side3 ?side4 A10.out).mono ?_); (case side1 => repeat (first | exact (Kd.S_reads' HO856.out).2.2 | (with_reducible refine Kd.C_alloc ?_ _) | (with_reducible refine Kd.C_drewN ?_ _) | (with_reducible refine Kd.C_drew ?_))); (case side2 => exact (Kd.S_reads' HO856.out).2.1); (case side3 => repeat (first | exact (Kd.S_reads' HO859.out).2.2 | (with_reducible refine Kd.C_alloc ?_ _) | (with_reducible refine Kd.C_drewN ?_ _) | (with_reducible refine Kd.C_drew ?_))); (case side4 => exact (Kd.S_reads' HO859.out).2.1); rintro e w' ⟨rfl, ⟨nd, rfl⟩⟩; (try first | exact ⟨rfl, _, World.drewN_drewN _ _ _⟩ | exact ⟨rfl, _, Eq.trans (World.drewN_drewN _ _ _) (congrArg (World.drewN _) (Nat.add_assoc _ _ _))⟩))))
    go_meet
    case rel => exact ⟨_, (((t854.length : Int) == 0)), (by first | rfl | (simp; done) | (simp [*]; done)), H', ⟨by first | omega | exact Nat.le_refl _⟩, ⟨by (with_reducible repeat (first | apply Kd.R_alloc | apply Kd.R_drewN | apply Kd.R_drew)); exact HO853.out⟩, ⟨by (with_reducible repeat (first | apply Kd.S_alloc | apply Kd.S_drewN | apply Kd.S_drew)); exact Kd.S_mono HO856.out (fun _ hk => trivial)⟩, ⟨by repeat (first | (with_reducible first | exact HB.out | apply below_alloc | apply pw_below_drewN | apply below_drew1) | exact HB.out)⟩⟩
   ·replace c11 := Bool.eq_false_iff.mpr c11
    subst c11
    have H1 : (laws_FnClaimsBetter.j0 k t849 t850 t851 t854 true) = some r := by rw [if_neg (show ¬ (false = true) by decide)] at H; exact H
    clear H
    have H := H1
    clear H1
    have H' := Aside0.mk H
    clear H
    go_wp2_with (first | (go_at_call 45; (with_reducible refine (spec_ClaimsAfter.calls k t849 _ _ t850 t851 t857 _ ?side1 ?side2 A9.out).mono ?_); (case side1 => repeat (first | exact (Kd.R_reads' HO853.out).2.2 | (with_reducible refine Kd.C_alloc ?_ _) | (with_reducible refine Kd.C_drewN ?_ _) | (with_reducible refine Kd.C_drew ?_))); (case side2 => exact (Kd.R_reads' HO853.out).2.1); rintro e w15 ⟨v858, rfl, ho0, hb⟩; have n0_ := Aside0.mk (Kd.R_below (by (with_reducible repeat (first | apply Kd.R_alloc | apply Kd.R_drewN | apply Kd.R_drew)); exact HO853.out) hb); have n1_ := Aside0.mk (Kd.S_elder' (by (with_reducible repeat (first | apply Kd.S_alloc | apply Kd.S_drewN | apply Kd.S_drew)); exact HO856.out) (Kd.S_base ho0) hb); have n2_ := Aside0.mk (Kd.S_lower (Kd.S_new' ho0 (Kd.S_lt (by (with_reducible repeat (first | apply Kd.S_alloc | apply Kd.S_drewN | apply Kd.S_drew)); exact HO856.out))) (below_size (by repeat (first | (with_reducible first | exact HB.out | apply below_alloc | apply pw_below_drewN | apply below_drew1) | exact HB.out)))); have n3_ := Aside0.mk (below_step (by repeat (first | (with_reducible first | exact HB.out | apply below_alloc | apply pw_below_drewN | apply below_drew1) | exact HB.out)) hb); clear HO853; clear HO856; clear HB; have HO853 := n0_; have HO856 := n1_; have HO859 := n2_; have HB := n3_; clear n0_ n1_ n2_ n3_; (try clear hb); (try clear hb2); (try clear hk); (try clear hi); (try clear ho0); obtain ⟨Ao16, co16, eo16⟩ := Kd.S_slice HO856.out; subst eo16; obtain ⟨Ao17, co17, eo17⟩ := Kd.S_slice HO859.out; subst eo17) | (go_at_call 44; (with_reducible refine (laws_wnPairs.calls k _ _ t854 _ _ t857 false _ ?side1 ?side2 ?side3 ?side4 A10.out).mono ?_); (case side1 => repeat (first | exact (Kd.S_reads' HO856.out).2.2 | (with_reducible refine Kd.C_alloc ?_ _) | (with_reducible refine Kd.C_drewN ?_ _) | (with_reducible refine Kd.C_drew ?_))); (case side2 => exact (Kd.S_reads' HO856.out).2.1); (case side3 => repeat (first | exact (Kd.S_reads' HO859.out).2.2 | (with_reducible refine Kd.C_alloc ?_ _) | (with_reducible refine Kd.C_drewN ?_ _) | (with_reducible refine Kd.C_drew ?_))); (case side4 => exact (Kd.S_reads' HO859.out).2.1); rintro e w' ⟨rfl, ⟨nd, rfl⟩⟩; (try first | exact ⟨rfl, _, World.drewN_drewN _ _ _⟩ | exact ⟨rfl, _, Eq.trans (World.drewN_drewN _ _ _) (congrArg (World.drewN _) (Nat.add_assoc _ _ _))⟩)))
    repeat (go_quiet (first | (go_at_call 45; (with_reducible refine (spec_ClaimsAfter.calls k t849 _ _ t850 t851 t857 _ ?side1 ?side2 A9.out).mono ?_); (case side1 => repeat (first | exact (Kd.R_reads' HO853.out).2.2 | (with_reducible refine Kd.C_alloc ?_ _) | (with_reducible refine Kd.C_drewN ?_ _) | (with_reducible refine Kd.C_drew ?_))); (case side2 => exact (Kd.R_reads' HO853.out).2.1); rintro e w15 ⟨v858, rfl, ho0, hb⟩; have n0_ := Aside0.mk (Kd.R_below (by (with_reducible repeat (first | apply Kd.R_alloc | apply Kd.R_drewN | apply Kd.R_drew)); exact HO853.out) hb); have n1_ := Aside0.mk (Kd.S_elder' (by (with_reducible repeat (first | apply Kd.S_alloc | apply Kd.S_drewN | apply Kd.S_drew)); exact HO856.out) (Kd.S_base ho0) hb); have n2_ := Aside0.mk (Kd.S_lower (Kd.S_new' ho0 (Kd.S_lt (by (with_reducible repeat (first | apply Kd.S_alloc | apply Kd.S_drewN | apply Kd.S_drew)); exact HO856.out))) (below_size (by repeat (first | (with_reducible first | exact HB.out | apply below_alloc | apply pw_below_drewN | apply below_drew1) | exact HB.out)))); have n3_ := Aside0.mk (below_step (by repeat (first | (with_reducible first | exact HB.out | apply below_alloc | apply pw_below_drewN | apply below_drew1) | exact HB.out)) hb); clear HO853; clear HO856; clear HB; have HO853 := n0_; have HO856 := n1_; have HO859 := n2_; have HB := n3_; clear n0_ n1_ n2_ n3_; (try clear hb); (try clear hb2); (try clear hk); (try clear hi); (try clear ho0); obtain ⟨Ao16, co16, eo16⟩ := Kd.S_slice HO856.out; subst eo16; obtain ⟨Ao17, co17, eo17⟩ := Kd.S_slice HO859.out; subst eo17) | (go_at_call 44; (with_reducible refine (laws_wnPairs.calls k _ _ t854 _ _ t857 false _ ?side1 ?side2 ?side3 ?side4 A10.out).mono ?_); (case side1 => repeat (first | exact (Kd.S_reads' HO856.out).2.2 | (with_reducible refine Kd.C_alloc ?_ _) | (with_reducible refine Kd.C_drewN ?_ _) | (with_reducible refine Kd.C_drew ?_))); (case side2 => exact (Kd.S_reads' HO856.out).2.1); (case side3 => repeat (first | exact (Kd.S_reads' HO859.out).2.2 | (with_reducible refine Kd.C_alloc ?_ _) | (with_reducible refine Kd.C_drewN ?_ _) | (with_reducible refine Kd.C_drew ?_))); (case side4 => exact (Kd.S_reads' HO859.out).2.1); rintro e w' ⟨rfl, ⟨nd, rfl⟩⟩; (try first | exact ⟨rfl, _, World.drewN_drewN _ _ _⟩ | exact ⟨rfl, _, Eq.trans (World.drewN_drewN _ _ _) (congrArg (World.drewN _) (Nat.add_assoc _ _ _))⟩))); try go_wp2_with (first | (go_at_call 45; (with_reducible refine (spec_ClaimsAfter.calls k t849 _ _ t850 t851 t857 _ ?side1 ?side2 A9.out).mono ?_); (case side1 => repeat (first | exact (Kd.R_reads' HO853.out).2.2 | (with_reducible refine Kd.C_alloc ?_ _) | (with_reducible refine Kd.C_drewN ?_ _) | (with_reducible refine Kd.C_drew ?_))); (case side2 => exact (Kd.R_reads' HO853.out).2.1); rintro e w15 ⟨v858, rfl, ho0, hb⟩; have n0_ := Aside0.mk (Kd.R_below (by (with_reducible repeat (first | apply Kd.R_alloc | apply Kd.R_drewN | apply Kd.R_drew)); exact HO853.out) hb); have n1_ := Aside0.mk (Kd.S_elder' (by (with_reducible repeat (first | apply Kd.S_alloc | apply Kd.S_drewN | apply Kd.S_drew)); exact HO856.out) (Kd.S_base ho0) hb); have n2_ := Aside0.mk (Kd.S_lower (Kd.S_new' ho0 (Kd.S_lt (by (with_reducible repeat (first | apply Kd.S_alloc | apply Kd.S_drewN | apply Kd.S_drew)); exact HO856.out))) (below_size (by repeat (first | (with_reducible first | exact HB.out | apply below_alloc | apply pw_below_drewN | apply below_drew1) | exact HB.out)))); have n3_ := Aside0.mk (below_step (by repeat (first | (with_reducible first | exact HB.out | apply below_alloc | apply pw_below_drewN | apply below_drew1) | exact HB.out)) hb); clear HO853; clear HO856; clear HB; have HO853 := n0_; have HO856 := n1_; have HO859 := n2_; have HB := n3_; clear n0_ n1_ n2_ n3_; (try clear hb); (try clear hb2); (try clear hk); (try clear hi); (try clear ho0); obtain ⟨Ao16, co16, eo16⟩ := Kd.S_slice HO856.out; subst eo16; obtain ⟨Ao17, co17, eo17⟩ := Kd.S_slice HO859.out; subst eo17) | (go_at_call 44; (with_reducible refine (laws_wnPairs.calls k _ _ t854 _ _ t857 false _ ?side1 ?side2 ?side3 ?side4 A10.out).mono ?_); (case side1 => repeat (first | exact (Kd.S_reads' HO856.out).2.2 | (with_reducible refine Kd.C_alloc ?_ _) | (with_reducible refine Kd.C_drewN ?_ _) | (with_reducible refine Kd.C_drew ?_))); (case side2 => exact (Kd.S_reads' HO856.out).2.1); (case side3 => repeat (first | exact (Kd.S_reads' HO859.out).2.2 | (with_reducible refine Kd.C_alloc ?_ _) | (with_reducible refine Kd.C_drewN ?_ _) | (with_reducible refine Kd.C_drew ?_))); (case side4 => exact (Kd.S_reads' HO859.out).2.1); rintro e w' ⟨rfl, ⟨nd, rfl⟩⟩; (try first | exact ⟨rfl, _, World.drewN_drewN _ _ _⟩ | exact ⟨rfl, _, Eq.trans (World.drewN_drewN _ _ _) (congrArg (World.drewN _) (Nat.add_assoc _ _ _))⟩))))
    go_meet
    case rel => exact ⟨_, (true), (by first | rfl | (simp; done) | (simp [*]; done)), H', ⟨by first | omega | exact Nat.le_refl _⟩, ⟨by (with_reducible repeat (first | apply Kd.R_alloc | apply Kd.R_drewN | apply Kd.R_drew)); exact HO853.out⟩, ⟨by (with_reducible repeat (first | apply Kd.S_alloc | apply Kd.S_drewN | apply Kd.S_drew)); exact Kd.S_mono HO856.out (fun _ hk => trivial)⟩, ⟨by repeat (first | (with_reducible first | exact HB.out | apply below_alloc | apply pw_below_drewN | apply below_drew1) | exact HB.out)⟩⟩
  case rest =>
   clear HC5
   try clear c1
   try clear c2
   try clear c2b0
   try clear c2b1
   try clear p2
   try clear c11
   try clear c13
   obtain ⟨kq, x33_4, rfl, HA, HJ4, HO_4, HO_6, HB⟩ := hcut
   cases kq with
   | zero => exact absurd HA.out (by simp [laws_FnClaimsBetter.j0])
   | succ kj4 =>
    have H := HA.out
    clear HA
    simp only [laws_FnClaimsBetter.j0] at H
    by_cases c18 : x33_4 = true
    ·subst c18
     have H1 : ((spec_ClaimsAfter.f kj4 t849 t850 t851).bind fun t861 => ((laws_wnPairs.f kj4 t854 t861).bind fun t864 => (if t864 = true then ((impl_FirstClaims.f kj4 t849).bind fun t865 => ((spec_FirstClaims.f kj4 t849).bind fun t868 => ((laws_wnPairs.f kj4 t865 t868).bind fun t871 => (some t871)))) else (some false)))) = some r := by rw [if_pos rfl] at H; exact H
     clear H
     have H := H1
     clear H1
     replace H := Option.bind_eq_some_iff.mp H
     obtain ⟨t861, A190, H⟩ := H
     replace H : ((laws_wnPairs.f kj4 t854 t861).bind fun t864 => (if t864 = true then ((impl_FirstClaims.f kj4 t849).bind fun t865 => ((spec_FirstClaims.f kj4 t849).bind fun t868 => ((laws_wnPairs.f kj4 t865 t868).bind fun t871 => (some t871)))) else (some false))) = some r := H
     have A19 := Aside0.mk A190
     clear A190
     replace H := Option.bind_eq_some_iff.mp H
     obtain ⟨t864, A200, H⟩ := H
     replace H : (if t864 = true then ((impl_FirstClaims.f kj4 t849).bind fun t865 => ((spec_FirstClaims.f kj4 t849).bind fun t868 => ((laws_wnPairs.f kj4 t865 t868).bind fun t871 => (some t871)))) else (some false)) = some r := H
     have A20 := Aside0.mk A200
     clear A200
     by_cases c21 : t864 = true
     ·subst c21
      have H1 : ((impl_FirstClaims.f kj4 t849).bind fun t865 => ((spec_FirstClaims.f kj4 t849).bind fun t868 => ((laws_wnPairs.f kj4 t865 t868).bind fun t871 => (some t871)))) = some r := by rw [if_pos rfl] at H; exact H
      clear H
      have H := H1
      clear H1
      replace H := Option.bind_eq_some_iff.mp H
      obtain ⟨t865, A220, H⟩ := H
      replace H : ((spec_FirstClaims.f kj4 t849).bind fun t868 => ((laws_wnPairs.f kj4 t865 t868).bind fun t871 => (some t871))) = some r := H
      have A22 := Aside0.mk A220
      clear A220
      replace H := Option.bind_eq_some_iff.mp H
      obtain ⟨t868, A230, H⟩ := H
      replace H : ((laws_wnPairs.f kj4 t865 t868).bind fun t871 => (some t871)) = some r := H
      have A23 := Aside0.mk A230
      clear A230
      replace H := Option.bind_eq_some_iff.mp H
      obtain ⟨t871, A240, H⟩ := H
      replace H : (some t871) = some r := H
      have A24 := Aside0.mk A240
      clear A240
      obtain rfl := Option.some.inj H
      go_wp2_with (first | (go_at_call 45; (with_reducible refine (spec_ClaimsAfter.calls kj4 t849 _ _ t850 t851 t861 _ ?side1 ?side2 A19.out).mono ?_); (case side1 => repeat (first | exact (Kd.R_reads' HO_4.out).2.2 | (with_reducible refine Kd.C_alloc ?_ _) | (with_reducible refine Kd.C_drewN ?_ _) | (with_reducible refine Kd.C_drew ?_))); (case side2 => exact (Kd.R_reads' HO_4.out).2.1); rintro e w25 ⟨v862, rfl, ho0, hb⟩; have n0_ := Aside0.mk (Kd.R_below (by (with_reducible repeat (first | apply Kd.R_alloc | apply Kd.R_drewN | apply Kd.R_drew)); exact HO_4.out) hb); have n1_ := Aside0.mk (Kd.S_elder' (by (with_reducible repeat (first | apply Kd.S_alloc | apply Kd.S_drewN | apply Kd.S_drew)); exact HO_6.out) (Kd.S_base ho0) hb); have n2_ := Aside0.mk (Kd.S_lower (Kd.S_new' ho0 (Kd.S_lt (by (with_reducible repeat (first | apply Kd.S_alloc | apply Kd.S_drewN | apply Kd.S_drew)); exact HO_6.out))) (below_size (by repeat (first | (with_reducible first | exact HB.out | apply below_alloc | apply pw_below_drewN | apply below_drew1) | exact HB.out)))); have n3_ := Aside0.mk (below_step (by repeat (first | (with_reducible first | exact HB.out | apply below_alloc | apply pw_below_drewN | apply below_drew1) | exact HB.out)) hb); clear HO_4; clear HO_6; clear HB; have HO_4 := n0_; have HO_6 := n1_; have HO863 := n2_; have HB := n3_; clear n0_ n1_ n2_ n3_; (try clear hb); (try clear hb2); (try clear hk); (try clear hi); (try clear ho0); obtain ⟨Ao26, co26, eo26⟩ := Kd.S_slice HO_6.out; subst eo26; obtain ⟨Ao27, co27, eo27⟩ := Kd.S_slice HO863.out; subst eo27) | (go_at_call 44; (with_reducible refine (laws_wnPairs.calls kj4 _ _ t854 _ _ t861 true _ ?side1 ?side2 ?side3 ?side4 A20.out).mono ?_); (case side1 => repeat (first | exact (Kd.S_reads' HO_6.out).2.2 | (with_reducible refine Kd.C_alloc ?_ _) | (with_reducible refine Kd.C_drewN ?_ _) | (with_reducible refine Kd.C_drew ?_))); (case side2 => exact (Kd.S_reads' HO_6.out).2.1); (case side3 => repeat (first | exact (Kd.S_reads' HO863.out).2.2 | (with_reducible refine Kd.C_alloc ?_ _) | (with_reducible refine Kd.C_drewN ?_ _) | (with_reducible refine Kd.C_drew ?_))); (case side4 => exact (Kd.S_reads' HO863.out).2.1); rintro e w' ⟨rfl, ⟨nd, rfl⟩⟩; (try first | exact ⟨rfl, _, World.drewN_drewN _ _ _⟩ | exact ⟨rfl, _, Eq.trans (World.drewN_drewN _ _ _) (congrArg (World.drewN _) (Nat.add_assoc _ _ _))⟩)) | (go_at_call 30; (with_reducible refine (impl_FirstClaims.calls kj4 t849 t865 _ A22.out).mono ?_); rintro e w28 ⟨v866, rfl, ho0, hb⟩; have n0_ := Aside0.mk (Kd.R_below (by (with_reducible repeat (first | apply Kd.R_alloc | apply Kd.R_drewN | apply Kd.R_drew)); exact HO_4.out) hb); have n1_ := Aside0.mk (Kd.S_elder' (by (with_reducible repeat (first | apply Kd.S_alloc | apply Kd.S_drewN | apply Kd.S_drew)); exact HO_6.out) (Kd.S_base ho0) hb); have n2_ := Aside0.mk (Kd.S_elder' (by (with_reducible repeat (first | apply Kd.S_alloc | apply Kd.S_drewN | apply Kd.S_drew)); exact HO863.out) (Kd.S_base ho0) hb); have n3_ := Aside0.mk (Kd.S_lower (Kd.S_new' (Kd.S_new' ho0 (Kd.S_lt (by (with_reducible repeat (first | apply Kd.S_alloc | apply Kd.S_drewN | apply Kd.S_drew)); exact HO_6.out))) (Kd.S_lt (by (with_reducible repeat (first | apply Kd.S_alloc | apply Kd.S_drewN | apply Kd.S_drew)); exact HO863.out))) (below_size (by repeat (first | (with_reducible first | exact HB.out | apply below_alloc | apply pw_below_drewN | apply below_drew1) | exact HB.out)))); have n4_ := Aside0.mk (below_step (by repeat (first | (with_reducible first | exact HB.out | apply below_alloc | apply pw_below_drewN | apply below_drew1) | exact HB.out)) hb); clear HO_4; clear HO_6; clear HO863; clear HB; have HO_4 := n0_; have HO_6 := n1_; have HO863 := n2_; have HO867 := n3_; have HB := n4_; clear n0_ n1_ n2_ n3_ n4_; (try clear hb); (try clear hb2); (try clear hk); (try clear hi); (try clear ho0)) | (go_at_call 29; (with_reducible refine (spec_FirstClaims.calls kj4 t849 t868 _ A23.out).mono ?_); rintro e w29 ⟨v869, rfl, ho0, hb⟩; have n0_ := Aside0.mk (Kd.R_below (by (with_reducible repeat (first | apply Kd.R_alloc | apply Kd.R_drewN | apply Kd.R_drew)); exact HO_4.out) hb); have n1_ := Aside0.mk (Kd.S_elder' (by (with_reducible repeat (first | apply Kd.S_alloc | apply Kd.S_drewN | apply Kd.S_drew)); exact HO_6.out) (Kd.S_base ho0) hb); have n2_ := Aside0.mk (Kd.S_elder' (by (with_reducible repeat (first | apply Kd.S_alloc | apply Kd.S_drewN | apply Kd.S_drew)); exact HO863.out) (Kd.S_base ho0) hb); have n3_ := Aside0.mk (Kd.S_elder' (by (with_reducible repeat (first | apply Kd.S_alloc | apply Kd.S_drewN | apply Kd.S_drew)); exact HO867.out) (Kd.S_base ho0) hb); have n4_ := Aside0.mk (Kd.S_lower (Kd.S_new' (Kd.S_new' (Kd.S_new' ho0 (Kd.S_lt (by (with_reducible repeat (first | apply Kd.S_alloc | apply Kd.S_drewN | apply Kd.S_drew)); exact HO_6.out))) (Kd.S_lt (by (with_reducible repeat (first | apply Kd.S_alloc | apply Kd.S_drewN | apply Kd.S_drew)); exact HO863.out))) (Kd.S_lt (by (with_reducible repeat (first | apply Kd.S_alloc | apply Kd.S_drewN | apply Kd.S_drew)); exact HO867.out))) (below_size (by repeat (first | (with_reducible first | exact HB.out | apply below_alloc | apply pw_below_drewN | apply below_drew1) | exact HB.out)))); have n5_ := Aside0.mk (below_step (by repeat (first | (with_reducible first | exact HB.out | apply below_alloc | apply pw_below_drewN | apply below_drew1) | exact HB.out)) hb); clear HO_4; clear HO_6; clear HO863; clear HO867; clear HB; have HO_4 := n0_; have HO_6 := n1_; have HO863 := n2_; have HO867 := n3_; have HO870 := n4_; have HB := n5_; clear n0_ n1_ n2_ n3_ n4_ n5_; (try clear hb); (try clear hb2); (try clear hk); (try clear hi); (try clear ho0); obtain ⟨Ao30, co30, eo30⟩ := Kd.S_slice HO867.out; subst eo30; obtain ⟨Ao31, co31, eo31⟩ := Kd.S_slice HO870.out; subst eo31) | (go_at_call 44; (with_reducible refine (laws_wnPairs.calls kj4 _ _ t865 _ _ t868 t871 _ ?side1 ?side2 ?side3 ?side4 A24.out).mono ?_); (case side1 => repeat (first | exact (Kd.S_reads' HO867.out).2.2 | (with_reducible refine Kd.C_alloc ?_ _) | (with_reducible refine Kd.C_drewN ?_ _) | (with_reducible refine Kd.C_drew ?_))); (case side2 => exact (Kd.S_reads' HO867.out).2.1); (case side3 => repeat (first | exact (Kd.S_reads' HO870.out).2.2 | (with_reducible refine Kd.C_alloc ?_ _) | (with_reducible refine Kd.C_drewN ?_ _) | (with_reducible refine Kd.C_drew ?_))); (case side4 => exact (Kd.S_reads' HO870.out).2.1); rintro e w' ⟨rfl, ⟨nd, rfl⟩⟩; (try first | exact ⟨rfl, _, World.drewN_drewN _ _ _⟩ | exact ⟨rfl, _, Eq.trans (World.drewN_drewN _ _ _) (congrArg (World.drewN _) (Nat.add_assoc _ _ _))⟩)))
      repeat (go_quiet (first | (go_at_call 45; (with_reducible refine (spec_ClaimsAfter.calls kj4 t849 _ _ t850 t851 t861 _ ?side1 ?side2 A19.out).mono ?_); (case side1 => repeat (first | exact (Kd.R_reads' HO_4.out).2.2 | (with_reducible refine Kd.C_alloc ?_ _) | (with_reducible refine Kd.C_drewN ?_ _) | (with_reducible refine Kd.C_drew ?_))); (case side2 => exact (Kd.R_reads' HO_4.out).2.1); rintro e w25 ⟨v862, rfl, ho0, hb⟩; have n0_ := Aside0.mk (Kd.R_below (by (with_reducible repeat (first | apply Kd.R_alloc | apply Kd.R_drewN | apply Kd.R_drew)); exact HO_4.out) hb); have n1_ := Aside0.mk (Kd.S_elder' (by (with_reducible repeat (first | apply Kd.S_alloc | apply Kd.S_drewN | apply Kd.S_drew)); exact HO_6.out) (Kd.S_base ho0) hb); have n2_ := Aside0.mk (Kd.S_lower (Kd.S_new' ho0 (Kd.S_lt (by (with_reducible repeat (first | apply Kd.S_alloc | apply Kd.S_drewN | apply Kd.S_drew)); exact HO_6.out))) (below_size (by repeat (first | (with_reducible first | exact HB.out | apply below_alloc | apply pw_below_drewN | apply below_drew1) | exact HB.out)))); have n3_ := Aside0.mk (below_step (by repeat (first | (with_reducible first | exact HB.out | apply below_alloc | apply pw_below_drewN | apply below_drew1) | exact HB.out)) hb); clear HO_4; clear HO_6; clear HB; have HO_4 := n0_; have HO_6 := n1_; have HO863 := n2_; have HB := n3_; clear n0_ n1_ n2_ n3_; (try clear hb); (try clear hb2); (try clear hk); (try clear hi); (try clear ho0); obtain ⟨Ao26, co26, eo26⟩ := Kd.S_slice HO_6.out; subst eo26; obtain ⟨Ao27, co27, eo27⟩ := Kd.S_slice HO863.out; subst eo27) | (go_at_call 44; (with_reducible refine (laws_wnPairs.calls kj4 _ _ t854 _ _ t861 true _ ?side1 ?side2 ?side3 ?side4 A20.out).mono ?_); (case side1 => repeat (first | exact (Kd.S_reads' HO_6.out).2.2 | (with_reducible refine Kd.C_alloc ?_ _) | (with_reducible refine Kd.C_drewN ?_ _) | (with_reducible refine Kd.C_drew ?_))); (case side2 => exact (Kd.S_reads' HO_6.out).2.1); (case side3 => repeat (first | exact (Kd.S_reads' HO863.out).2.2 | (with_reducible refine Kd.C_alloc ?_ _) | (with_reducible refine Kd.C_drewN ?_ _) | (with_reducible refine Kd.C_drew ?_))); (case side4 => exact (Kd.S_reads' HO863.out).2.1); rintro e w' ⟨rfl, ⟨nd, rfl⟩⟩; (try first | exact ⟨rfl, _, World.drewN_drewN _ _ _⟩ | exact ⟨rfl, _, Eq.trans (World.drewN_drewN _ _ _) (congrArg (World.drewN _) (Nat.add_assoc _ _ _))⟩)) | (go_at_call 30; (with_reducible refine (impl_FirstClaims.calls kj4 t849 t865 _ A22.out).mono ?_); rintro e w28 ⟨v866, rfl, ho0, hb⟩; have n0_ := Aside0.mk (Kd.R_below (by (with_reducible repeat (first | apply Kd.R_alloc | apply Kd.R_drewN | apply Kd.R_drew)); exact HO_4.out) hb); have n1_ := Aside0.mk (Kd.S_elder' (by (with_reducible repeat (first | apply Kd.S_alloc | apply Kd.S_drewN | apply Kd.S_drew)); exact HO_6.out) (Kd.S_base ho0) hb); have n2_ := Aside0.mk (Kd.S_elder' (by (with_reducible repeat (first | apply Kd.S_alloc | apply Kd.S_drewN | apply Kd.S_drew)); exact HO863.out) (Kd.S_base ho0) hb); have n3_ := Aside0.mk (Kd.S_lower (Kd.S_new' (Kd.S_new' ho0 (Kd.S_lt (by (with_reducible repeat (first | apply Kd.S_alloc | apply Kd.S_drewN | apply Kd.S_drew)); exact HO_6.out))) (Kd.S_lt (by (with_reducible repeat (first | apply Kd.S_alloc | apply Kd.S_drewN | apply Kd.S_drew)); exact HO863.out))) (below_size (by repeat (first | (with_reducible first | exact HB.out | apply below_alloc | apply pw_below_drewN | apply below_drew1) | exact HB.out)))); have n4_ := Aside0.mk (below_step (by repeat (first | (with_reducible first | exact HB.out | apply below_alloc | apply pw_below_drewN | apply below_drew1) | exact HB.out)) hb); clear HO_4; clear HO_6; clear HO863; clear HB; have HO_4 := n0_; have HO_6 := n1_; have HO863 := n2_; have HO867 := n3_; have HB := n4_; clear n0_ n1_ n2_ n3_ n4_; (try clear hb); (try clear hb2); (try clear hk); (try clear hi); (try clear ho0)) | (go_at_call 29; (with_reducible refine (spec_FirstClaims.calls kj4 t849 t868 _ A23.out).mono ?_); rintro e w29 ⟨v869, rfl, ho0, hb⟩; have n0_ := Aside0.mk (Kd.R_below (by (with_reducible repeat (first | apply Kd.R_alloc | apply Kd.R_drewN | apply Kd.R_drew)); exact HO_4.out) hb); have n1_ := Aside0.mk (Kd.S_elder' (by (with_reducible repeat (first | apply Kd.S_alloc | apply Kd.S_drewN | apply Kd.S_drew)); exact HO_6.out) (Kd.S_base ho0) hb); have n2_ := Aside0.mk (Kd.S_elder' (by (with_reducible repeat (first | apply Kd.S_alloc | apply Kd.S_drewN | apply Kd.S_drew)); exact HO863.out) (Kd.S_base ho0) hb); have n3_ := Aside0.mk (Kd.S_elder' (by (with_reducible repeat (first | apply Kd.S_alloc | apply Kd.S_drewN | apply Kd.S_drew)); exact HO867.out) (Kd.S_base ho0) hb); have n4_ := Aside0.mk (Kd.S_lower (Kd.S_new' (Kd.S_new' (Kd.S_new' ho0 (Kd.S_lt (by (with_reducible repeat (first | apply Kd.S_alloc | apply Kd.S_drewN | apply Kd.S_drew)); exact HO_6.out))) (Kd.S_lt (by (with_reducible repeat (first | apply Kd.S_alloc | apply Kd.S_drewN | apply Kd.S_drew)); exact HO863.out))) (Kd.S_lt (by (with_reducible repeat (first | apply Kd.S_alloc | apply Kd.S_drewN | apply Kd.S_drew)); exact HO867.out))) (below_size (by repeat (first | (with_reducible first | exact HB.out | apply below_alloc | apply pw_below_drewN | apply below_drew1) | exact HB.out)))); have n5_ := Aside0.mk (below_step (by repeat (first | (with_reducible first | exact HB.out | apply below_alloc | apply pw_below_drewN | apply below_drew1) | exact HB.out)) hb); clear HO_4; clear HO_6; clear HO863; clear HO867; clear HB; have HO_4 := n0_; have HO_6 := n1_; have HO863 := n2_; have HO867 := n3_; have HO870 := n4_; have HB := n5_; clear n0_ n1_ n2_ n3_ n4_ n5_; (try clear hb); (try clear hb2); (try clear hk); (try clear hi); (try clear ho0); obtain ⟨Ao30, co30, eo30⟩ := Kd.S_slice HO867.out; subst eo30; obtain ⟨Ao31, co31, eo31⟩ := Kd.S_slice HO870.out; subst eo31) | (go_at_call 44; (with_reducible refine (laws_wnPairs.calls kj4 _ _ t865 _ _ t868 t871 _ ?side1 ?side2 ?side3 ?side4 A24.out).mono ?_); (case side1 => repeat (first | exact (Kd.S_reads' HO867.out).2.2 | (with_reducible refine Kd.C_alloc ?_ _) | (with_reducible refine Kd.C_drewN ?_ _) | (with_reducible refine Kd.C_drew ?_))); (case side2 => exact (Kd.S_reads' HO867.out).2.1); (case side3 => repeat (first | exact (Kd.S_reads' HO870.out).2.2 | (with_reducible refine Kd.C_alloc ?_ _) | (with_reducible refine Kd.C_drewN ?_ _) | (with_reducible refine Kd.C_drew ?_))); (case side4 => exact (Kd.S_reads' HO870.out).2.1); rintro e w' ⟨rfl, ⟨nd, rfl⟩⟩; (try first | exact ⟨rfl, _, World.drewN_drewN _ _ _⟩ | exact ⟨rfl, _, Eq.trans (World.drewN_drewN _ _ _) (congrArg (World.drewN _) (Nat.add_assoc _ _ _))⟩))); try go_wp2_with (first | (go_at_call 45; (with_reducible refine (spec_ClaimsAfter.calls kj4 t849 _ _ t850 t851 t861 _ ?side1 ?side2 A19.out).mono ?_); (case side1 => repeat (first | exact (Kd.R_reads' HO_4.out).2.2 | (with_reducible refine Kd.C_alloc ?_ _) | (with_reducible refine Kd.C_drewN ?_ _) | (with_reducible refine Kd.C_drew ?_))); (case side2 => exact (Kd.R_reads' HO_4.out).2.1); rintro e w25 ⟨v862, rfl, ho0, hb⟩; have n0_ := Aside0.mk (Kd.R_below (by (with_reducible repeat (first | apply Kd.R_alloc | apply Kd.R_drewN | apply Kd.R_drew)); exact HO_4.out) hb); have n1_ := Aside0.mk (Kd.S_elder' (by (with_reducible repeat (first | apply Kd.S_alloc | apply Kd.S_drewN | apply Kd.S_drew)); exact HO_6.out) (Kd.S_base ho0) hb); have n2_ := Aside0.mk (Kd.S_lower (Kd.S_new' ho0 (Kd.S_lt (by (with_reducible repeat (first | apply Kd.S_alloc | apply Kd.S_drewN | apply Kd.S_drew)); exact HO_6.out))) (below_size (by repeat (first | (with_reducible first | exact HB.out | apply below_alloc | apply pw_below_drewN | apply below_drew1) | exact HB.out)))); have n3_ := Aside0.mk (below_step (by repeat (first | (with_reducible first | exact HB.out | apply below_alloc | apply pw_below_drewN | apply below_drew1) | exact HB.out)) hb); clear HO_4; clear HO_6; clear HB; have HO_4 := n0_; have HO_6 := n1_; have HO863 := n2_; have HB := n3_; clear n0_ n1_ n2_ n3_; (try clear hb); (try clear hb2); (try clear hk); (try clear hi); (try clear ho0); obtain ⟨Ao26, co26, eo26⟩ := Kd.S_slice HO_6.out; subst eo26; obtain ⟨Ao27, co27, eo27⟩ := Kd.S_slice HO863.out; subst eo27) | (go_at_call 44; (with_reducible refine (laws_wnPairs.calls kj4 _ _ t854 _ _ t861 true _ ?side1 ?side2 ?side3 ?side4 A20.out).mono ?_); (case side1 => repeat (first | exact (Kd.S_reads' HO_6.out).2.2 | (with_reducible refine Kd.C_alloc ?_ _) | (with_reducible refine Kd.C_drewN ?_ _) | (with_reducible refine Kd.C_drew ?_))); (case side2 => exact (Kd.S_reads' HO_6.out).2.1); (case side3 => repeat (first | exact (Kd.S_reads' HO863.out).2.2 | (with_reducible refine Kd.C_alloc ?_ _) | (with_reducible refine Kd.C_drewN ?_ _) | (with_reducible refine Kd.C_drew ?_))); (case side4 => exact (Kd.S_reads' HO863.out).2.1); rintro e w' ⟨rfl, ⟨nd, rfl⟩⟩; (try first | exact ⟨rfl, _, World.drewN_drewN _ _ _⟩ | exact ⟨rfl, _, Eq.trans (World.drewN_drewN _ _ _) (congrArg (World.drewN _) (Nat.add_assoc _ _ _))⟩)) | (go_at_call 30; (with_reducible refine (impl_FirstClaims.calls kj4 t849 t865 _ A22.out).mono ?_); rintro e w28 ⟨v866, rfl, ho0, hb⟩; have n0_ := Aside0.mk (Kd.R_below (by (with_reducible repeat (first | apply Kd.R_alloc | apply Kd.R_drewN | apply Kd.R_drew)); exact HO_4.out) hb); have n1_ := Aside0.mk (Kd.S_elder' (by (with_reducible repeat (first | apply Kd.S_alloc | apply Kd.S_drewN | apply Kd.S_drew)); exact HO_6.out) (Kd.S_base ho0) hb); have n2_ := Aside0.mk (Kd.S_elder' (by (with_reducible repeat (first | apply Kd.S_alloc | apply Kd.S_drewN | apply Kd.S_drew)); exact HO863.out) (Kd.S_base ho0) hb); have n3_ := Aside0.mk (Kd.S_lower (Kd.S_new' (Kd.S_new' ho0 (Kd.S_lt (by (with_reducible repeat (first | apply Kd.S_alloc | apply Kd.S_drewN | apply Kd.S_drew)); exact HO_6.out))) (Kd.S_lt (by (with_reducible repeat (first | apply Kd.S_alloc | apply Kd.S_drewN | apply Kd.S_drew)); exact HO863.out))) (below_size (by repeat (first | (with_reducible first | exact HB.out | apply below_alloc | apply pw_below_drewN | apply below_drew1) | exact HB.out)))); have n4_ := Aside0.mk (below_step (by repeat (first | (with_reducible first | exact HB.out | apply below_alloc | apply pw_below_drewN | apply below_drew1) | exact HB.out)) hb); clear HO_4; clear HO_6; clear HO863; clear HB; have HO_4 := n0_; have HO_6 := n1_; have HO863 := n2_; have HO867 := n3_; have HB := n4_; clear n0_ n1_ n2_ n3_ n4_; (try clear hb); (try clear hb2); (try clear hk); (try clear hi); (try clear ho0)) | (go_at_call 29; (with_reducible refine (spec_FirstClaims.calls kj4 t849 t868 _ A23.out).mono ?_); rintro e w29 ⟨v869, rfl, ho0, hb⟩; have n0_ := Aside0.mk (Kd.R_below (by (with_reducible repeat (first | apply Kd.R_alloc | apply Kd.R_drewN | apply Kd.R_drew)); exact HO_4.out) hb); have n1_ := Aside0.mk (Kd.S_elder' (by (with_reducible repeat (first | apply Kd.S_alloc | apply Kd.S_drewN | apply Kd.S_drew)); exact HO_6.out) (Kd.S_base ho0) hb); have n2_ := Aside0.mk (Kd.S_elder' (by (with_reducible repeat (first | apply Kd.S_alloc | apply Kd.S_drewN | apply Kd.S_drew)); exact HO863.out) (Kd.S_base ho0) hb); have n3_ := Aside0.mk (Kd.S_elder' (by (with_reducible repeat (first | apply Kd.S_alloc | apply Kd.S_drewN | apply Kd.S_drew)); exact HO867.out) (Kd.S_base ho0) hb); have n4_ := Aside0.mk (Kd.S_lower (Kd.S_new' (Kd.S_new' (Kd.S_new' ho0 (Kd.S_lt (by (with_reducible repeat (first | apply Kd.S_alloc | apply Kd.S_drewN | apply Kd.S_drew)); exact HO_6.out))) (Kd.S_lt (by (with_reducible repeat (first | apply Kd.S_alloc | apply Kd.S_drewN | apply Kd.S_drew)); exact HO863.out))) (Kd.S_lt (by (with_reducible repeat (first | apply Kd.S_alloc | apply Kd.S_drewN | apply Kd.S_drew)); exact HO867.out))) (below_size (by repeat (first | (with_reducible first | exact HB.out | apply below_alloc | apply pw_below_drewN | apply below_drew1) | exact HB.out)))); have n5_ := Aside0.mk (below_step (by repeat (first | (with_reducible first | exact HB.out | apply below_alloc | apply pw_below_drewN | apply below_drew1) | exact HB.out)) hb); clear HO_4; clear HO_6; clear HO863; clear HO867; clear HB; have HO_4 := n0_; have HO_6 := n1_; have HO863 := n2_; have HO867 := n3_; have HO870 := n4_; have HB := n5_; clear n0_ n1_ n2_ n3_ n4_ n5_; (try clear hb); (try clear hb2); (try clear hk); (try clear hi); (try clear ho0); obtain ⟨Ao30, co30, eo30⟩ := Kd.S_slice HO867.out; subst eo30; obtain ⟨Ao31, co31, eo31⟩ := Kd.S_slice HO870.out; subst eo31) | (go_at_call 44; (with_reducible refine (laws_wnPairs.calls kj4 _ _ t865 _ _ t868 t871 _ ?side1 ?side2 ?side3 ?side4 A24.out).mono ?_); (case side1 => repeat (first | exact (Kd.S_reads' HO867.out).2.2 | (with_reducible refine Kd.C_alloc ?_ _) | (with_reducible refine Kd.C_drewN ?_ _) | (with_reducible refine Kd.C_drew ?_))); (case side2 => exact (Kd.S_reads' HO867.out).2.1); (case side3 => repeat (first | exact (Kd.S_reads' HO870.out).2.2 | (with_reducible refine Kd.C_alloc ?_ _) | (with_reducible refine Kd.C_drewN ?_ _) | (with_reducible refine Kd.C_drew ?_))); (case side4 => exact (Kd.S_reads' HO870.out).2.1); rintro e w' ⟨rfl, ⟨nd, rfl⟩⟩; (try first | exact ⟨rfl, _, World.drewN_drewN _ _ _⟩ | exact ⟨rfl, _, Eq.trans (World.drewN_drewN _ _ _) (congrArg (World.drewN _) (Nat.add_assoc _ _ _))⟩))))
      go_ret
      exact ⟨by first | rfl | (simp [errW_none, errW_some] <;> rfl) | (simp [*, errW_none, errW_some] <;> rfl), by repeat (first | (with_reducible first | exact HB.out | apply below_alloc | apply pw_below_drewN | apply below_drew1) | exact HB.out)⟩
     ·replace c21 := Bool.eq_false_iff.mpr c21
      subst c21
      have H1 : (some false) = some r := by rw [if_neg (show ¬ (false = true) by decide)] at H; exact H
      clear H
      have H := H1
      clear H1
      obtain rfl := Option.some.inj H
      go_wp2_with (first | (go_at_call 45; (with_reducible refine (spec_ClaimsAfter.calls kj4 t849 _ _ t850 t851 t861 _ ?side1 ?side2 A19.out).mono ?_); (case side1 => repeat (first | exact (Kd.R_reads' HO_4.out).2.2 | (with_reducible refine Kd.C_alloc ?_ _) | (with_reducible refine Kd.C_drewN ?_ _) | (with_reducible refine Kd.C_drew ?_))); (case side2 => exact (Kd.R_reads' HO_4.out).2.1); rintro e w32 ⟨v862, rfl, ho0, hb⟩; have n0_ := Aside0.mk (Kd.R_below (by (with_reducible repeat (first | apply Kd.R_alloc | apply Kd.R_drewN | apply Kd.R_drew)); exact HO_4.out) hb); have n1_ := Aside0.mk (Kd.S_elder' (by (with_reducible repeat (first | apply Kd.S_alloc | apply Kd.S_drewN | apply Kd.S_drew)); exact HO_6.out) (Kd.S_base ho0) hb); have n2_ := Aside0.mk (Kd.S_lower (Kd.S_new' ho0 (Kd.S_lt (by (with_reducible repeat (first | apply Kd.S_alloc | apply Kd.S_drewN | apply Kd.S_drew)); exact HO_6.out))) (below_size (by repeat (first | (with_reducible first | exact HB.out | apply below_alloc | apply pw_below_drewN | apply below_drew1) | exact HB.out)))); have n3_ := Aside0.mk (below_step (by repeat (first | (with_reducible first | exact HB.out | apply below_alloc | apply pw_below_drewN | apply below_drew1) | exact HB.out)) hb); clear HO_4; clear HO_6; clear HB; have HO_4 := n0_; have HO_6 := n1_; have HO863 := n2_; have HB := n3_; clear n0_ n1_ n2_ n3_; (try clear hb); (try clear hb2); (try clear hk); (try clear hi); (try clear ho0); obtain ⟨Ao33, co33, eo33⟩ := Kd.S_slice HO_6.out; subst eo33; obtain ⟨Ao34, co34, eo34⟩ := Kd.S_slice HO863.out; subst eo34) | (go_at_call 44; (with_reducible refine (laws_wnPairs.calls kj4 _ _ t854 _ _ t861 false _ ?side1 ?side2 ?side3 ?side4 A20.out).mono ?_); (case side1 => repeat (first | exact (Kd.S_reads' HO_6.out).2.2 | (with_reducible refine Kd.C_alloc ?_ _) | (with_reducible refine Kd.C_drewN ?_ _) | (with_reducible refine Kd.C_drew ?_))); (case side2 => exact (Kd.S_reads' HO_6.out).2.1); (case side3 => repeat (first | exact (Kd.S_reads' HO863.out).2.2 | (with_reducible refine Kd.C_alloc ?_ _) | (with_reducible refine Kd.C_drewN ?_ _) | (with_reducible refine Kd.C_drew ?_))); (case side4 => exact (Kd.S_reads' HO863.out).2.1); rintro e w' ⟨rfl, ⟨nd, rfl⟩⟩; (try first | exact ⟨rfl, _, World.drewN_drewN _ _ _⟩ | exact ⟨rfl, _, Eq.trans (World.drewN_drewN _ _ _) (congrArg (World.drewN _) (Nat.add_assoc _ _ _))⟩)))
      repeat (go_quiet (first | (go_at_call 45; (with_reducible refine (spec_ClaimsAfter.calls kj4 t849 _ _ t850 t851 t861 _ ?side1 ?side2 A19.out).mono ?_); (case side1 => repeat (first | exact (Kd.R_reads' HO_4.out).2.2 | (with_reducible refine Kd.C_alloc ?_ _) | (with_reducible refine Kd.C_drewN ?_ _) | (with_reducible refine Kd.C_drew ?_))); (case side2 => exact (Kd.R_reads' HO_4.out).2.1); rintro e w32 ⟨v862, rfl, ho0, hb⟩; have n0_ := Aside0.mk (Kd.R_below (by (with_reducible repeat (first | apply Kd.R_alloc | apply Kd.R_drewN | apply Kd.R_drew)); exact HO_4.out) hb); have n1_ := Aside0.mk (Kd.S_elder' (by (with_reducible repeat (first | apply Kd.S_alloc | apply Kd.S_drewN | apply Kd.S_drew)); exact HO_6.out) (Kd.S_base ho0) hb); have n2_ := Aside0.mk (Kd.S_lower (Kd.S_new' ho0 (Kd.S_lt (by (with_reducible repeat (first | apply Kd.S_alloc | apply Kd.S_drewN | apply Kd.S_drew)); exact HO_6.out))) (below_size (by repeat (first | (with_reducible first | exact HB.out | apply below_alloc | apply pw_below_drewN | apply below_drew1) | exact HB.out)))); have n3_ := Aside0.mk (below_step (by repeat (first | (with_reducible first | exact HB.out | apply below_alloc | apply pw_below_drewN | apply below_drew1) | exact HB.out)) hb); clear HO_4; clear HO_6; clear HB; have HO_4 := n0_; have HO_6 := n1_; have HO863 := n2_; have HB := n3_; clear n0_ n1_ n2_ n3_; (try clear hb); (try clear hb2); (try clear hk); (try clear hi); (try clear ho0); obtain ⟨Ao33, co33, eo33⟩ := Kd.S_slice HO_6.out; subst eo33; obtain ⟨Ao34, co34, eo34⟩ := Kd.S_slice HO863.out; subst eo34) | (go_at_call 44; (with_reducible refine (laws_wnPairs.calls kj4 _ _ t854 _ _ t861 false _ ?side1 ?side2 ?side3 ?side4 A20.out).mono ?_); (case side1 => repeat (first | exact (Kd.S_reads' HO_6.out).2.2 | (with_reducible refine Kd.C_alloc ?_ _) | (with_reducible refine Kd.C_drewN ?_ _) | (with_reducible refine Kd.C_drew ?_))); (case side2 => exact (Kd.S_reads' HO_6.out).2.1); (case side3 => repeat (first | exact (Kd.S_reads' HO863.out).2.2 | (with_reducible refine Kd.C_alloc ?_ _) | (with_reducible refine Kd.C_drewN ?_ _) | (with_reducible refine Kd.C_drew ?_))); (case side4 => exact (Kd.S_reads' HO863.out).2.1); rintro e w' ⟨rfl, ⟨nd, rfl⟩⟩; (try first | exact ⟨rfl, _, World.drewN_drewN _ _ _⟩ | exact ⟨rfl, _, Eq.trans (World.drewN_drewN _ _ _) (congrArg (World.drewN _) (Nat.add_assoc _ _ _))⟩))); try go_wp2_with (first | (go_at_call 45; (with_reducible refine (spec_ClaimsAfter.calls kj4 t849 _ _ t850 t851 t861 _ ?side1 ?side2 A19.out).mono ?_); (case side1 => repeat (first | exact (Kd.R_reads' HO_4.out).2.2 | (with_reducible refine Kd.C_alloc ?_ _) | (with_reducible refine Kd.C_drewN ?_ _) | (with_reducible refine Kd.C_drew ?_))); (case side2 => exact (Kd.R_reads' HO_4.out).2.1); rintro e w32 ⟨v862, rfl, ho0, hb⟩; have n0_ := Aside0.mk (Kd.R_below (by (with_reducible repeat (first | apply Kd.R_alloc | apply Kd.R_drewN | apply Kd.R_drew)); exact HO_4.out) hb); have n1_ := Aside0.mk (Kd.S_elder' (by (with_reducible repeat (first | apply Kd.S_alloc | apply Kd.S_drewN | apply Kd.S_drew)); exact HO_6.out) (Kd.S_base ho0) hb); have n2_ := Aside0.mk (Kd.S_lower (Kd.S_new' ho0 (Kd.S_lt (by (with_reducible repeat (first | apply Kd.S_alloc | apply Kd.S_drewN | apply Kd.S_drew)); exact HO_6.out))) (below_size (by repeat (first | (with_reducible first | exact HB.out | apply below_alloc | apply pw_below_drewN | apply below_drew1) | exact HB.out)))); have n3_ := Aside0.mk (below_step (by repeat (first | (with_reducible first | exact HB.out | apply below_alloc | apply pw_below_drewN | apply below_drew1) | exact HB.out)) hb); clear HO_4; clear HO_6; clear HB; have HO_4 := n0_; have HO_6 := n1_; have HO863 := n2_; have HB := n3_; clear n0_ n1_ n2_ n3_; (try clear hb); (try clear hb2); (try clear hk); (try clear hi); (try clear ho0); obtain ⟨Ao33, co33, eo33⟩ := Kd.S_slice HO_6.out; subst eo33; obtain ⟨Ao34, co34, eo34⟩ := Kd.S_slice HO863.out; subst eo34) | (go_at_call 44; (with_reducible refine (laws_wnPairs.calls kj4 _ _ t854 _ _ t861 false _ ?side1 ?side2 ?side3 ?side4 A20.out).mono ?_); (case side1 => repeat (first | exact (Kd.S_reads' HO_6.out).2.2 | (with_reducible refine Kd.C_alloc ?_ _) | (with_reducible refine Kd.C_drewN ?_ _) | (with_reducible refine Kd.C_drew ?_))); (case side2 => exact (Kd.S_reads' HO_6.out).2.1); (case side3 => repeat (first | exact (Kd.S_reads' HO863.out).2.2 | (with_reducible refine Kd.C_alloc ?_ _) | (with_reducible refine Kd.C_drewN ?_ _) | (with_reducible refine Kd.C_drew ?_))); (case side4 => exact (Kd.S_reads' HO863.out).2.1); rintro e w' ⟨rfl, ⟨nd, rfl⟩⟩; (try first | exact ⟨rfl, _, World.drewN_drewN _ _ _⟩ | exact ⟨rfl, _, Eq.trans (World.drewN_drewN _ _ _) (congrArg (World.drewN _) (Nat.add_assoc _ _ _))⟩))))
      go_ret
      exact ⟨by first | rfl | (simp [errW_none, errW_some] <;> rfl) | (simp [*, errW_none, errW_some] <;> rfl), by repeat (first | (with_reducible first | exact HB.out | apply below_alloc | apply pw_below_drewN | apply below_drew1) | exact HB.out)⟩
    ·replace c18 := Bool.eq_false_iff.mpr c18
     subst c18
     have H1 : ((impl_NextClaims.f kj4 t849 t850 t854).bind fun t872 => (laws_FnClaimsBetter.l0 kj4 t849 t854 t872 t849 0)) = some r := by rw [if_neg (show ¬ (false = true) by decide)] at H; exact H
     clear H
     have H := H1
     clear H1
     replace H := Option.bind_eq_some_iff.mp H
     obtain ⟨t872, A350, H⟩ := H
     replace H : (laws_FnClaimsBetter.l0 kj4 t849 t854 t872 t849 0) = some r := H
     have A35 := Aside0.mk A350
     clear A350
     have H' := Aside0.mk H
     clear H
     obtain ⟨Ao36, co36, eo36⟩ := Kd.S_slice HO_6.out
     subst eo36
     go_wp2_with (first | (go_at_call 47; (with_reducible refine (impl_NextClaims.calls kj4 t849 _ _ t850 _ _ t854 t872 _ ?side1 ?side2 ?side3 ?side4 A35.out).mono ?_); (case side1 => repeat (first | exact (Kd.R_reads' HO_4.out).2.2 | (with_reducible refine Kd.C_alloc ?_ _) | (with_reducible refine Kd.C_drewN ?_ _) | (with_reducible refine Kd.C_drew ?_))); (case side2 => exact (Kd.R_reads' HO_4.out).2.1); (case side3 => repeat (first | exact (Kd.S_reads' HO_6.out).2.2 | (with_reducible refine Kd.C_alloc ?_ _) | (with_reducible refine Kd.C_drewN ?_ _) | (with_reducible refine Kd.C_drew ?_))); (case side4 => exact (Kd.S_reads' HO_6.out).2.1); rintro e w37 ⟨v873, rfl, ho0, hb⟩; have n0_ := Aside0.mk (Kd.R_below (by (with_reducible repeat (first | apply Kd.R_alloc | apply Kd.R_drewN | apply Kd.R_drew)); exact HO_4.out) hb); have n1_ := Aside0.mk (Kd.S_elder' (by (with_reducible repeat (first | apply Kd.S_alloc | apply Kd.S_drewN | apply Kd.S_drew)); exact HO_6.out) (Kd.S_base ho0) hb); have n2_ := Aside0.mk (Kd.S_lower (Kd.S_new' ho0 (Kd.S_lt (by (with_reducible repeat (first | apply Kd.S_alloc | apply Kd.S_drewN | apply Kd.S_drew)); exact HO_6.out))) (below_size (by repeat (first | (with_reducible first | exact HB.out | apply below_alloc | apply pw_below_drewN | apply below_drew1) | exact HB.out)))); have n3_ := Aside0.mk (below_step (by repeat (first | (with_reducible first | exact HB.out | apply below_alloc | apply pw_below_drewN | apply below_drew1) | exact HB.out)) hb); clear HO_4; clear HO_6; clear HB; have HO_4 := n0_; have HO_6 := n1_; have HO874 := n2_; have HB := n3_; clear n0_ n1_ n2_ n3_; (try clear hb); (try clear hb2); (try clear hk); (try clear hi); (try clear ho0)))
     repeat (go_quiet (first | (go_at_call 47; (with_reducible refine (impl_NextClaims.calls kj4 t849 _ _ t850 _ _ t854 t872 _ ?side1 ?side2 ?side3 ?side4 A35.out).mono ?_); (case side1 => repeat (first | exact (Kd.R_reads' HO_4.out).2.2 | (with_reducible refine Kd.C_alloc ?_ _) | (with_reducible refine Kd.C_drewN ?_ _) | (with_reducible refine Kd.C_drew ?_))); (case side2 => exact (Kd.R_reads' HO_4.out).2.1); (case side3 => repeat (first | exact (Kd.S_reads' HO_6.out).2.2 | (with_reducible refine Kd.C_alloc ?_ _) | (with_reducible refine Kd.C_drewN ?_ _) | (with_reducible refine Kd.C_drew ?_))); (case side4 => exact (Kd.S_reads' HO_6.out).2.1); rintro e w37 ⟨v873, rfl, ho0, hb⟩; have n0_ := Aside0.mk (Kd.R_below (by (with_reducible repeat (first | apply Kd.R_alloc | apply Kd.R_drewN | apply Kd.R_drew)); exact HO_4.out) hb); have n1_ := Aside0.mk (Kd.S_elder' (by (with_reducible repeat (first | apply Kd.S_alloc | apply Kd.S_drewN | apply Kd.S_drew)); exact HO_6.out) (Kd.S_base ho0) hb); have n2_ := Aside0.mk (Kd.S_lower (Kd.S_new' ho0 (Kd.S_lt (by (with_reducible repeat (first | apply Kd.S_alloc | apply Kd.S_drewN | apply Kd.S_drew)); exact HO_6.out))) (below_size (by repeat (first | (with_reducible first | exact HB.out | apply below_alloc | apply pw_below_drewN | apply below_drew1) | exact HB.out)))); have n3_ := Aside0.mk (below_step (by repeat (first | (with_reducible first | exact HB.out | apply below_alloc | apply pw_below_drewN | apply below_drew1) | exact HB.out)) hb); clear HO_4; clear HO_6; clear HB; have HO_4 := n0_; have HO_6 := n1_; have HO874 := n2_; have HB := n3_; clear n0_ n1_ n2_ n3_; (try clear hb); (try clear hb2); (try clear hk); (try clear hi); (try clear ho0))); try go_wp2_with (first | (go_at_call 47; (with_reducible refine (impl_NextClaims.calls kj4 t849 _ _ t850 _ _ t854 t872 _ ?side1 ?side2 ?side3 ?side4 A35.out).mono ?_); (case side1 => repeat (first | exact (Kd.R_reads' HO_4.out).2.2 | (with_reducible refine Kd.C_alloc ?_ _) | (with_reducible refine Kd.C_drewN ?_ _) | (with_reducible refine Kd.C_drew ?_))); (case side2 => exact (Kd.R_reads' HO_4.out).2.1); (case side3 => repeat (first | exact (Kd.S_reads' HO_6.out).2.2 | (with_reducible refine Kd.C_alloc ?_ _) | (with_reducible refine Kd.C_drewN ?_ _) | (with_reducible refine Kd.C_drew ?_))); (case side4 => exact (Kd.S_reads' HO_6.out).2.1); rintro e w37 ⟨v873, rfl, ho0, hb⟩; have n0_ := Aside0.mk (Kd.R_below (by (with_reducible repeat (first | apply Kd.R_alloc | apply Kd.R_drewN | apply Kd.R_drew)); exact HO_4.out) hb); have n1_ := Aside0.mk (Kd.S_elder' (by (with_reducible repeat (first | apply Kd.S_alloc | apply Kd.S_drewN | apply Kd.S_drew)); exact HO_6.out) (Kd.S_base ho0) hb); have n2_ := Aside0.mk (Kd.S_lower (Kd.S_new' ho0 (Kd.S_lt (by (with_reducible repeat (first | apply Kd.S_alloc | apply Kd.S_drewN | apply Kd.S_drew)); exact HO_6.out))) (below_size (by repeat (first | (with_reducible first | exact HB.out | apply below_alloc | apply pw_below_drewN | apply below_drew1) | exact HB.out)))); have n3_ := Aside0.mk (below_step (by repeat (first | (with_reducible first | exact HB.out | apply below_alloc | apply pw_below_drewN | apply below_drew1) | exact HB.out)) hb); clear HO_4; clear HO_6; clear HB; have HO_4 := n0_; have HO_6 := n1_; have HO874 := n2_; have HB := n3_; clear n0_ n1_ n2_ n3_; (try clear hb); (try clear hb2); (try clear hk); (try clear hi); (try clear ho0))))
     go_loopg [52] kj4 (fun kq v52 w' => ∃ (x52_2 : Int), v52 = .int .i64 x52_2 ∧ Aside0 (laws_FnClaimsBetter.l0 kq t849 t854 t872 t849 x52_2 = some r) ∧ Aside0 (kq ≤ kj4) ∧ Aside0 (Kd.S (Kd.slice 3 (Kd.int .i64)) 24 w' w.heap.size (fun k_ => some k_ ≠ (v873 : Value).ownBlock) (.slice Ao36 t854.length co36) t854) ∧ Aside0 (Kd.S (Kd.slice 3 (Kd.int .i64)) 24 w' w.heap.size (fun k_ => some k_ ≠ ((.slice Ao36 t854.length co36) : Value).ownBlock) v873 t872) ∧ Aside0 (Below w.heap.size w w'))
     case atStart => exact ⟨(0), (by first | rfl | (simp; done) | (simp [*]; done)), H', ⟨Nat.le_refl _⟩, ⟨by (with_reducible repeat (first | apply Kd.S_alloc | apply Kd.S_drewN | apply Kd.S_drew)); exact Kd.S_mono HO_6.out (fun _ hk => hk.2)⟩, ⟨by (with_reducible repeat (first | apply Kd.S_alloc | apply Kd.S_drewN | apply Kd.S_drew)); exact Kd.S_mono HO874.out (fun _ hk => hk.2)⟩, ⟨by repeat (first | (with_reducible first | exact HB.out | apply below_alloc | apply pw_below_drewN | apply below_drew1) | exact HB.out)⟩⟩
     case round =>
      clear H'
      try clear c1
      try clear c2
      try clear c2b0
      try clear c2b1
      try clear p2
      try clear c11
      try clear c13
      try clear c18
      try clear c21
      try clear p2
      obtain ⟨x52_2, rfl, HA, HK2, HO_6, HO_7, HB⟩ := hrel
      cases gk with
      | zero => exact absurd HA.out (by simp [laws_FnClaimsBetter.l0])
      | succ k2 =>
       have H := HA.out
       clear HA
       simp only [laws_FnClaimsBetter.l0] at H
       by_cases c38 : x52_2 < t849
       ·rw [if_pos c38] at H
        have c38b0 : decide (x52_2 < t849) = true := decide_eq_true c38
        clear c38
        by_cases c39 : 0 ≤ x52_2
        ·rw [if_pos c39] at H
         have c39b0 : decide (0 ≤ x52_2) = true := decide_eq_true c39
         clear c39
         by_cases c40 : x52_2 < (t872.length : Int)
         ·rw [if_pos c40] at H
          have c40b0 : decide (x52_2 < (t872.length : Int)) = true := decide_eq_true c40
          clear c40
          by_cases c41 : 0 < ((rd_L5 t872 x52_2).length : Int)
          ·rw [if_pos c41] at H
           have c41b0 : decide (0 < ((rd_L5 t872 x52_2).length : Int)) = true := decide_eq_true c41
           have c41b1 : decide (0 < (rd_L5 t872 x52_2).length) = true := decide_eq_true (by omega)
           clear c41
           by_cases c42 : x52_2 < (t854.length : Int)
           ·rw [if_pos c42] at H
            have c42b0 : decide (x52_2 < (t854.length : Int)) = true := decide_eq_true c42
            clear c42
            by_cases c43 : 0 < ((rd_L5 t854 x52_2).length : Int)
            ·rw [if_pos c43] at H
             have c43b0 : decide (0 < ((rd_L5 t854 x52_2).length : Int)) = true := decide_eq_true c43
             have c43b1 : decide (0 < (rd_L5 t854 x52_2).length) = true := decide_eq_true (by omega)
             clear c43
             by_cases c44 : (rd (rd_L5 t872 x52_2) 0) > (rd (rd_L5 t854 x52_2) 0)
             ·rw [if_pos c44] at H
              have c44b0 : decide ((rd (rd_L5 t854 x52_2) 0) < (rd (rd_L5 t872 x52_2) 0)) = true := decide_eq_true c44
              clear c44
              obtain rfl := Option.some.inj H
              obtain ⟨Ao45, co45, eo45⟩ := Kd.S_slice HO_7.out
              subst eo45
              have p875 : 0 ≤ (x52_2 : Int) := of_decide_eq_true (by first | (with_reducible assumption) | assumption)
              have q875 : x52_2 < (t872.length : Int) := of_decide_eq_true (by first | (with_reducible assumption) | assumption)
              obtain ⟨ad875, A875_0, c875_0, e875, hx875_0, hl875_0, hi875_0⟩ := at_L5 (Kd.S_reads' HO_7.out).2.2 x52_2 p875 q875
              cases e875
              obtain ⟨ce875, hce875, hMe875, hcc875⟩ := Kd.S_get HO_7.out [] x52_2 p875 (by first | exact q875 | exact of_decide_eq_true (by first | (with_reducible assumption) | assumption) | (have e_ := (Kd.S_reads' HO_7.out).1; omega))
              obtain ⟨ve875_0, rfl, ge875_0⟩ := hMe875
              have hv875_0 := hcc875 0 _ rfl
              rw [Nat.add_zero, show ((Kd.slice 3 (Kd.int .i64))).sz = 1 from rfl, Nat.mul_one] at hv875_0
              replace hv875_0 := Option.some.inj (hv875_0.symm.trans hx875_0)
              rw [hv875_0] at ge875_0
              have HL875_0 := Aside0.mk (show Kd.R (Kd.int .i64) 3 _ _ _ _ (rd_L5 t872 x52_2) from ge875_0)
              clear hv875_0 ge875_0
              clear hcc875 hce875
              have HR875_0 := Aside0.mk hi875_0
              have HC875_0 := Aside0.mk hl875_0
              clear hi875_0 hl875_0
              replace p875 := eq_true p875
              replace q875 := eq_true q875
              have p876 : 0 ≤ (0 : Int) := (by omega)
              have q876 : 0 < ((rd_L5 t872 x52_2).length : Int) := of_decide_eq_true (by first | (with_reducible assumption) | assumption)
              obtain ⟨ad876, e876, hx876_0⟩ := Kd.at_int (by repeat (first | (with_reducible exact HR875_0.out) | (with_reducible refine Kd.C_alloc ?_ _) | (with_reducible refine Kd.C_drewN ?_ _) | (with_reducible refine Kd.C_drew ?_) | exact HR875_0.out)) 0 p876 q876
              cases e876
              have qi876 : (0 < (rd_L5 t872 x52_2).length) = True := eq_true (by omega)
              (try rw [show ((0 : Int)).toNat = 0 from rfl] at hx876_0)
              (try rw [Addr.add_zero'] at hx876_0)
              replace p876 := eq_true p876
              replace q876 := eq_true q876
              have p877 : 0 ≤ (x52_2 : Int) := of_decide_eq_true (by first | (with_reducible assumption) | assumption)
              have q877 : x52_2 < (t854.length : Int) := of_decide_eq_true (by first | (with_reducible assumption) | assumption)
              obtain ⟨ad877, A877_0, c877_0, e877, hx877_0, hl877_0, hi877_0⟩ := at_L5 (Kd.S_reads' HO_6.out).2.2 x52_2 p877 q877
              cases e877
              obtain ⟨ce877, hce877, hMe877, hcc877⟩ := Kd.S_get HO_6.out [] x52_2 p877 (by first | exact q877 | exact of_decide_eq_true (by first | (with_reducible assumption) | assumption) | (have e_ := (Kd.S_reads' HO_6.out).1; omega))
              obtain ⟨ve877_0, rfl, ge877_0⟩ := hMe877
              have hv877_0 := hcc877 0 _ rfl
              rw [Nat.add_zero, show ((Kd.slice 3 (Kd.int .i64))).sz = 1 from rfl, Nat.mul_one] at hv877_0
              replace hv877_0 := Option.some.inj (hv877_0.symm.trans hx877_0)
              rw [hv877_0] at ge877_0
              have HL877_0 := Aside0.mk (show Kd.R (Kd.int .i64) 3 _ _ _ _ (rd_L5 t854 x52_2) from ge877_0)
              clear hv877_0 ge877_0
              clear hcc877 hce877
              have HR877_0 := Aside0.mk hi877_0
              have HC877_0 := Aside0.mk hl877_0
              clear hi877_0 hl877_0
              replace p877 := eq_true p877
              replace q877 := eq_true q877
              have p878 : 0 ≤ (0 : Int) := (by omega)
              have q878 : 0 < ((rd_L5 t854 x52_2).length : Int) := of_decide_eq_true (by first | (with_reducible assumption) | assumption)
              obtain ⟨ad878, e878, hx878_0⟩ := Kd.at_int (by repeat (first | (with_reducible exact HR877_0.out) | (with_reducible refine Kd.C_alloc ?_ _) | (with_reducible refine Kd.C_drewN ?_ _) | (with_reducible refine Kd.C_drew ?_) | exact HR877_0.out)) 0 p878 q878
              cases e878
              have qi878 : (0 < (rd_L5 t854 x52_2).length) = True := eq_true (by omega)
              (try rw [show ((0 : Int)).toNat = 0 from rfl] at hx878_0)
              (try rw [Addr.add_zero'] at hx878_0)
              replace p878 := eq_true p878
              replace q878 := eq_true q878
              go_wp2
              repeat (go_quiet (fail); try go_wp2)
              go_ret
              exact ⟨by first | rfl | (simp [errW_none, errW_some] <;> rfl) | (simp [*, errW_none, errW_some] <;> rfl), by repeat (first | (with_reducible first | exact HB.out | apply below_alloc | apply pw_below_drewN | apply below_drew1) | exact HB.out)⟩
             ·rw [if_neg c44] at H
              have c44b0 : decide ((rd (rd_L5 t854 x52_2) 0) < (rd (rd_L5 t872 x52_2) 0)) = false := decide_eq_false c44
              clear c44
              by_cases c46 : (rd (rd_L5 t872 x52_2) 0) = (rd (rd_L5 t854 x52_2) 0)
              ·rw [if_pos c46] at H
               have c46b0 : ((rd (rd_L5 t872 x52_2) 0) == (rd (rd_L5 t854 x52_2) 0)) = true := beq_iff_eq.mpr c46
               have c46b1 : ((rd (rd_L5 t872 x52_2) 0) != (rd (rd_L5 t854 x52_2) 0)) = false := bne_eq_false_iff_eq.mpr c46
               clear c46
               by_cases c47 : 1 < ((rd_L5 t872 x52_2).length : Int)
               ·rw [if_pos c47] at H
                have c47b0 : decide (1 < ((rd_L5 t872 x52_2).length : Int)) = true := decide_eq_true c47
                have c47b1 : decide (1 < (rd_L5 t872 x52_2).length) = true := decide_eq_true (by omega)
                clear c47
                by_cases c48 : 1 < ((rd_L5 t854 x52_2).length : Int)
                ·rw [if_pos c48] at H
                 have c48b0 : decide (1 < ((rd_L5 t854 x52_2).length : Int)) = true := decide_eq_true c48
                 have c48b1 : decide (1 < (rd_L5 t854 x52_2).length) = true := decide_eq_true (by omega)
                 clear c48
                 by_cases c49 : (rd (rd_L5 t872 x52_2) 1) > (rd (rd_L5 t854 x52_2) 1)
                 ·rw [if_pos c49] at H
                  have c49b0 : decide ((rd (rd_L5 t854 x52_2) 1) < (rd (rd_L5 t872 x52_2) 1)) = true := decide_eq_true c49
                  clear c49
                  obtain rfl := Option.some.inj H
                  obtain ⟨Ao50, co50, eo50⟩ := Kd.S_slice HO_7.out
                  subst eo50
                  have p875 : 0 ≤ (x52_2 : Int) := of_decide_eq_true (by first | (with_reducible assumption) | assumption)
                  have q875 : x52_2 < (t872.length : Int) := of_decide_eq_true (by first | (with_reducible assumption) | assumption)
                  obtain ⟨ad875, A875_0, c875_0, e875, hx875_0, hl875_0, hi875_0⟩ := at_L5 (Kd.S_reads' HO_7.out).2.2 x52_2 p875 q875
                  cases e875
                  obtain ⟨ce875, hce875, hMe875, hcc875⟩ := Kd.S_get HO_7.out [] x52_2 p875 (by first | exact q875 | exact of_decide_eq_true (by first | (with_reducible assumption) | assumption) | (have e_ := (Kd.S_reads' HO_7.out).1; omega))
                  obtain ⟨ve875_0, rfl, ge875_0⟩ := hMe875
                  have hv875_0 := hcc875 0 _ rfl
                  rw [Nat.add_zero, show ((Kd.slice 3 (Kd.int .i64))).sz = 1 from rfl, Nat.mul_one] at hv875_0
                  replace hv875_0 := Option.some.inj (hv875_0.symm.trans hx875_0)
                  rw [hv875_0] at ge875_0
                  have HL875_0 := Aside0.mk (show Kd.R (Kd.int .i64) 3 _ _ _ _ (rd_L5 t872 x52_2) from ge875_0)
                  clear hv875_0 ge875_0
                  clear hcc875 hce875
                  have HR875_0 := Aside0.mk hi875_0
                  have HC875_0 := Aside0.mk hl875_0
                  clear hi875_0 hl875_0
                  replace p875 := eq_true p875
                  replace q875 := eq_true q875
                  have p876 : 0 ≤ (0 : Int) := (by omega)
                  have q876 : 0 < ((rd_L5 t872 x52_2).length : Int) := of_decide_eq_true (by first | (with_reducible assumption) | assumption)
                  obtain ⟨ad876, e876, hx876_0⟩ := Kd.at_int (by repeat (first | (with_reducible exact HR875_0.out) | (with_reducible refine Kd.C_alloc ?_ _) | (with_reducible refine Kd.C_drewN ?_ _) | (with_reducible refine Kd.C_drew ?_) | exact HR875_0.out)) 0 p876 q876
                  cases e876
                  have qi876 : (0 < (rd_L5 t872 x52_2).length) = True := eq_true (by omega)
                  (try rw [show ((0 : Int)).toNat = 0 from rfl] at hx876_0)
                  (try rw [Addr.add_zero'] at hx876_0)
                  replace p876 := eq_true p876
                  replace q876 := eq_true q876
                  have p877 : 0 ≤ (x52_2 : Int) := of_decide_eq_true (by first | (with_reducible assumption) | assumption)
                  have q877 : x52_2 < (t854.length : Int) := of_decide_eq_true (by first | (with_reducible assumption) | assumption)
                  obtain ⟨ad877, A877_0, c877_0, e877, hx877_0, hl877_0, hi877_0⟩ := at_L5 (Kd.S_reads' HO_6.out).2.2 x52_2 p877 q877
                  cases e877
                  obtain ⟨ce877, hce877, hMe877, hcc877⟩ := Kd.S_get HO_6.out [] x52_2 p877 (by first | exact q877 | exact of_decide_eq_true (by first | (with_reducible assumption) | assumption) | (have e_ := (Kd.S_reads' HO_6.out).1; omega))
                  obtain ⟨ve877_0, rfl, ge877_0⟩ := hMe877
                  have hv877_0 := hcc877 0 _ rfl
                  rw [Nat.add_zero, show ((Kd.slice 3 (Kd.int .i64))).sz = 1 from rfl, Nat.mul_one] at hv877_0
                  replace hv877_0 := Option.some.inj (hv877_0.symm.trans hx877_0)
                  rw [hv877_0] at ge877_0
                  have HL877_0 := Aside0.mk (show Kd.R (Kd.int .i64) 3 _ _ _ _ (rd_L5 t854 x52_2) from ge877_0)
                  clear hv877_0 ge877_0
                  clear hcc877 hce877
                  have HR877_0 := Aside0.mk hi877_0
                  have HC877_0 := Aside0.mk hl877_0
                  clear hi877_0 hl877_0
                  replace p877 := eq_true p877
                  replace q877 := eq_true q877
                  have p878 : 0 ≤ (0 : Int) := (by omega)
                  have q878 : 0 < ((rd_L5 t854 x52_2).length : Int) := of_decide_eq_true (by first | (with_reducible assumption) | assumption)
                  obtain ⟨ad878, e878, hx878_0⟩ := Kd.at_int (by repeat (first | (with_reducible exact HR877_0.out) | (with_reducible refine Kd.C_alloc ?_ _) | (with_reducible refine Kd.C_drewN ?_ _) | (with_reducible refine Kd.C_drew ?_) | exact HR877_0.out)) 0 p878 q878
                  cases e878
                  have qi878 : (0 < (rd_L5 t854 x52_2).length) = True := eq_true (by omega)
                  (try rw [show ((0 : Int)).toNat = 0 from rfl] at hx878_0)
                  (try rw [Addr.add_zero'] at hx878_0)
                  replace p878 := eq_true p878
                  replace q878 := eq_true q878
                  have p879 : 0 ≤ (x52_2 : Int) := of_decide_eq_true (by first | (with_reducible assumption) | assumption)
                  have q879 : x52_2 < (t872.length : Int) := of_decide_eq_true (by first | (with_reducible assumption) | assumption)
                  obtain ⟨ad879, A879_0, c879_0, e879, hx879_0, hl879_0, hi879_0⟩ := at_L5 (Kd.S_reads' HO_7.out).2.2 x52_2 p879 q879
                  obtain rfl : ad875 = ad879 := (by injection e879)
                  obtain ⟨ce879, hce879, hMe879, hcc879⟩ := Kd.S_get HO_7.out [] x52_2 p879 (by first | exact q879 | exact of_decide_eq_true (by first | (with_reducible assumption) | assumption) | (have e_ := (Kd.S_reads' HO_7.out).1; omega))
                  obtain ⟨ve879_0, rfl, ge879_0⟩ := hMe879
                  have hv879_0 := hcc879 0 _ rfl
                  rw [Nat.add_zero, show ((Kd.slice 3 (Kd.int .i64))).sz = 1 from rfl, Nat.mul_one] at hv879_0
                  replace hv879_0 := Option.some.inj (hv879_0.symm.trans hx879_0)
                  rw [hv879_0] at ge879_0
                  have HL879_0 := Aside0.mk (show Kd.R (Kd.int .i64) 3 _ _ _ _ (rd_L5 t872 x52_2) from ge879_0)
                  clear hv879_0 ge879_0
                  clear hcc879 hce879
                  have HR879_0 := Aside0.mk hi879_0
                  have HC879_0 := Aside0.mk hl879_0
                  clear hi879_0 hl879_0
                  replace p879 := eq_true p879
                  replace q879 := eq_true q879
                  have ea_ := Option.some.inj (hx875_0.symm.trans hx879_0)
                  injection ea_ with ea_ en_ ec_
                  subst ea_
                  subst ec_
                  clear en_
                  have p880 : 0 ≤ (0 : Int) := (by omega)
                  have q880 : 0 < ((rd_L5 t872 x52_2).length : Int) := of_decide_eq_true (by first | (with_reducible assumption) | assumption)
                  obtain ⟨ad880, e880, hx880_0⟩ := Kd.at_int (by repeat (first | (with_reducible exact HR879_0.out) | (with_reducible refine Kd.C_alloc ?_ _) | (with_reducible refine Kd.C_drewN ?_ _) | (with_reducible refine Kd.C_drew ?_) | exact HR879_0.out)) 0 p880 q880
                  cases e880
                  have qi880 : (0 < (rd_L5 t872 x52_2).length) = True := eq_true (by omega)
                  (try rw [show ((0 : Int)).toNat = 0 from rfl] at hx880_0)
                  (try rw [Addr.add_zero'] at hx880_0)
                  replace p880 := eq_true p880
                  replace q880 := eq_true q880
                  have p881 : 0 ≤ (x52_2 : Int) := of_decide_eq_true (by first | (with_reducible assumption) | assumption)
                  have q881 : x52_2 < (t854.length : Int) := of_decide_eq_true (by first | (with_reducible assumption) | assumption)
                  obtain ⟨ad881, A881_0, c881_0, e881, hx881_0, hl881_0, hi881_0⟩ := at_L5 (Kd.S_reads' HO_6.out).2.2 x52_2 p881 q881
                  obtain rfl : ad877 = ad881 := (by injection e881)
                  obtain ⟨ce881, hce881, hMe881, hcc881⟩ := Kd.S_get HO_6.out [] x52_2 p881 (by first | exact q881 | exact of_decide_eq_true (by first | (with_reducible assumption) | assumption) | (have e_ := (Kd.S_reads' HO_6.out).1; omega))
                  obtain ⟨ve881_0, rfl, ge881_0⟩ := hMe881
                  have hv881_0 := hcc881 0 _ rfl
                  rw [Nat.add_zero, show ((Kd.slice 3 (Kd.int .i64))).sz = 1 from rfl, Nat.mul_one] at hv881_0
                  replace hv881_0 := Option.some.inj (hv881_0.symm.trans hx881_0)
                  rw [hv881_0] at ge881_0
                  have HL881_0 := Aside0.mk (show Kd.R (Kd.int .i64) 3 _ _ _ _ (rd_L5 t854 x52_2) from ge881_0)
                  clear hv881_0 ge881_0
                  clear hcc881 hce881
                  have HR881_0 := Aside0.mk hi881_0
                  have HC881_0 := Aside0.mk hl881_0
                  clear hi881_0 hl881_0
                  replace p881 := eq_true p881
                  replace q881 := eq_true q881
                  have ea_ := Option.some.inj (hx877_0.symm.trans hx881_0)
                  injection ea_ with ea_ en_ ec_
                  subst ea_
                  subst ec_
                  clear en_
                  have p882 : 0 ≤ (0 : Int) := (by omega)
                  have q882 : 0 < ((rd_L5 t854 x52_2).length : Int) := of_decide_eq_true (by first | (with_reducible assumption) | assumption)
                  obtain ⟨ad882, e882, hx882_0⟩ := Kd.at_int (by repeat (first | (with_reducible exact HR881_0.out) | (with_reducible refine Kd.C_alloc ?_ _) | (with_reducible refine Kd.C_drewN ?_ _) | (with_reducible refine Kd.C_drew ?_) | exact HR881_0.out)) 0 p882 q882
                  cases e882
                  have qi882 : (0 < (rd_L5 t854 x52_2).length) = True := eq_true (by omega)
                  (try rw [show ((0 : Int)).toNat = 0 from rfl] at hx882_0)
                  (try rw [Addr.add_zero'] at hx882_0)
                  replace p882 := eq_true p882
                  replace q882 := eq_true q882
                  have p883 : 0 ≤ (x52_2 : Int) := of_decide_eq_true (by first | (with_reducible assumption) | assumption)
                  have q883 : x52_2 < (t872.length : Int) := of_decide_eq_true (by first | (with_reducible assumption) | assumption)
                  obtain ⟨ad883, A883_0, c883_0, e883, hx883_0, hl883_0, hi883_0⟩ := at_L5 (Kd.S_reads' HO_7.out).2.2 x52_2 p883 q883
                  obtain rfl : ad875 = ad883 := (by injection e883)
                  obtain ⟨ce883, hce883, hMe883, hcc883⟩ := Kd.S_get HO_7.out [] x52_2 p883 (by first | exact q883 | exact of_decide_eq_true (by first | (with_reducible assumption) | assumption) | (have e_ := (Kd.S_reads' HO_7.out).1; omega))
                  obtain ⟨ve883_0, rfl, ge883_0⟩ := hMe883
                  have hv883_0 := hcc883 0 _ rfl
                  rw [Nat.add_zero, show ((Kd.slice 3 (Kd.int .i64))).sz = 1 from rfl, Nat.mul_one] at hv883_0
                  replace hv883_0 := Option.some.inj (hv883_0.symm.trans hx883_0)
                  rw [hv883_0] at ge883_0
                  have HL883_0 := Aside0.mk (show Kd.R (Kd.int .i64) 3 _ _ _ _ (rd_L5 t872 x52_2) from ge883_0)
                  clear hv883_0 ge883_0
                  clear hcc883 hce883
                  have HR883_0 := Aside0.mk hi883_0
                  have HC883_0 := Aside0.mk hl883_0
                  clear hi883_0 hl883_0
                  replace p883 := eq_true p883
                  replace q883 := eq_true q883
                  have ea_ := Option.some.inj (hx875_0.symm.trans hx883_0)
                  injection ea_ with ea_ en_ ec_
                  subst ea_
                  subst ec_
                  clear en_
                  have p884 : 0 ≤ (1 : Int) := (by omega)
                  have q884 : 1 < ((rd_L5 t872 x52_2).length : Int) := of_decide_eq_true (by first | (with_reducible assumption) | assumption)
                  obtain ⟨ad884, e884, hx884_0⟩ := Kd.at_int (by repeat (first | (with_reducible exact HR883_0.out) | (with_reducible refine Kd.C_alloc ?_ _) | (with_reducible refine Kd.C_drewN ?_ _) | (with_reducible refine Kd.C_drew ?_) | exact HR883_0.out)) 1 p884 q884
                  cases e884
                  (try simp only [show (1 : Int).toNat = 1 from rfl, Nat.reduceMul, Nat.reduceEqDiff, Go.Addr.add, ↓reduceIte] at hx884_0)
                  have qi884 : (1 < (rd_L5 t872 x52_2).length) = True := eq_true (by omega)
                  (try rw [show ((1 : Int)).toNat = 1 from rfl] at hx884_0)
                  replace p884 := eq_true p884
                  replace q884 := eq_true q884
                  have p885 : 0 ≤ (x52_2 : Int) := of_decide_eq_true (by first | (with_reducible assumption) | assumption)
                  have q885 : x52_2 < (t854.length : Int) := of_decide_eq_true (by first | (with_reducible assumption) | assumption)
                  obtain ⟨ad885, A885_0, c885_0, e885, hx885_0, hl885_0, hi885_0⟩ := at_L5 (Kd.S_reads' HO_6.out).2.2 x52_2 p885 q885
                  obtain rfl : ad877 = ad885 := (by injection e885)
                  obtain ⟨ce885, hce885, hMe885, hcc885⟩ := Kd.S_get HO_6.out [] x52_2 p885 (by first | exact q885 | exact of_decide_eq_true (by first | (with_reducible assumption) | assumption) | (have e_ := (Kd.S_reads' HO_6.out).1; omega))
                  obtain ⟨ve885_0, rfl, ge885_0⟩ := hMe885
                  have hv885_0 := hcc885 0 _ rfl
                  rw [Nat.add_zero, show ((Kd.slice 3 (Kd.int .i64))).sz = 1 from rfl, Nat.mul_one] at hv885_0
                  replace hv885_0 := Option.some.inj (hv885_0.symm.trans hx885_0)
                  rw [hv885_0] at ge885_0
                  have HL885_0 := Aside0.mk (show Kd.R (Kd.int .i64) 3 _ _ _ _ (rd_L5 t854 x52_2) from ge885_0)
                  clear hv885_0 ge885_0
                  clear hcc885 hce885
                  have HR885_0 := Aside0.mk hi885_0
                  have HC885_0 := Aside0.mk hl885_0
                  clear hi885_0 hl885_0
                  replace p885 := eq_true p885
                  replace q885 := eq_true q885
                  have ea_ := Option.some.inj (hx877_0.symm.trans hx885_0)
                  injection ea_ with ea_ en_ ec_
                  subst ea_
                  subst ec_
                  clear en_
                  have p886 : 0 ≤ (1 : Int) := (by omega)
                  have q886 : 1 < ((rd_L5 t854 x52_2).length : Int) := of_decide_eq_true (by first | (with_reducible assumption) | assumption)
                  obtain ⟨ad886, e886, hx886_0⟩ := Kd.at_int (by repeat (first | (with_reducible exact HR885_0.out) | (with_reducible refine Kd.C_alloc ?_ _) | (with_reducible refine Kd.C_drewN ?_ _) | (with_reducible refine Kd.C_drew ?_) | exact HR885_0.out)) 1 p886 q886
                  cases e886
                  (try simp only [show (1 : Int).toNat = 1 from rfl, Nat.reduceMul, Nat.reduceEqDiff, Go.Addr.add, ↓reduceIte] at hx886_0)
                  have qi886 : (1 < (rd_L5 t854 x52_2).length) = True := eq_true (by omega)
                  (try rw [show ((1 : Int)).toNat = 1 from rfl] at hx886_0)
                  replace p886 := eq_true p886
                  replace q886 := eq_true q886
                  go_wp2
                  repeat (go_quiet (fail); try go_wp2)
                  go_ret
                  exact ⟨by first | rfl | (simp [errW_none, errW_some] <;> rfl) | (simp [*, errW_none, errW_some] <;> rfl), by repeat (first | (with_reducible first | exact HB.out | apply below_alloc | apply pw_below_drewN | apply below_drew1) | exact HB.out)⟩
                 ·rw [if_neg c49] at H
                  have c49b0 : decide ((rd (rd_L5 t854 x52_2) 1) < (rd (rd_L5 t872 x52_2) 1)) = false := decide_eq_false c49
                  clear c49
                  have H' := Aside0.mk H
                  clear H
                  obtain ⟨Ao51, co51, eo51⟩ := Kd.S_slice HO_7.out
                  subst eo51
                  have p875 : 0 ≤ (x52_2 : Int) := of_decide_eq_true (by first | (with_reducible assumption) | assumption)
                  have q875 : x52_2 < (t872.length : Int) := of_decide_eq_true (by first | (with_reducible assumption) | assumption)
                  obtain ⟨ad875, A875_0, c875_0, e875, hx875_0, hl875_0, hi875_0⟩ := at_L5 (Kd.S_reads' HO_7.out).2.2 x52_2 p875 q875
                  cases e875
                  obtain ⟨ce875, hce875, hMe875, hcc875⟩ := Kd.S_get HO_7.out [] x52_2 p875 (by first | exact q875 | exact of_decide_eq_true (by first | (with_reducible assumption) | assumption) | (have e_ := (Kd.S_reads' HO_7.out).1; omega))
                  obtain ⟨ve875_0, rfl, ge875_0⟩ := hMe875
                  have hv875_0 := hcc875 0 _ rfl
                  rw [Nat.add_zero, show ((Kd.slice 3 (Kd.int .i64))).sz = 1 from rfl, Nat.mul_one] at hv875_0
                  replace hv875_0 := Option.some.inj (hv875_0.symm.trans hx875_0)
                  rw [hv875_0] at ge875_0
                  have HL875_0 := Aside0.mk (show Kd.R (Kd.int .i64) 3 _ _ _ _ (rd_L5 t872 x52_2) from ge875_0)
                  clear hv875_0 ge875_0
                  clear hcc875 hce875
                  have HR875_0 := Aside0.mk hi875_0
                  have HC875_0 := Aside0.mk hl875_0
                  clear hi875_0 hl875_0
                  replace p875 := eq_true p875
                  replace q875 := eq_true q875
                  have p876 : 0 ≤ (0 : Int) := (by omega)
                  have q876 : 0 < ((rd_L5 t872 x52_2).length : Int) := of_decide_eq_true (by first | (with_reducible assumption) | assumption)
                  obtain ⟨ad876, e876, hx876_0⟩ := Kd.at_int (by repeat (first | (with_reducible exact HR875_0.out) | (with_reducible refine Kd.C_alloc ?_ _) | (with_reducible refine Kd.C_drewN ?_ _) | (with_reducible refine Kd.C_drew ?_) | exact HR875_0.out)) 0 p876 q876
                  cases e876
                  have qi876 : (0 < (rd_L5 t872 x52_2).length) = True := eq_true (by omega)
                  (try rw [show ((0 : Int)).toNat = 0 from rfl] at hx876_0)
                  (try rw [Addr.add_zero'] at hx876_0)
                  replace p876 := eq_true p876
                  replace q876 := eq_true q876
                  have p877 : 0 ≤ (x52_2 : Int) := of_decide_eq_true (by first | (with_reducible assumption) | assumption)
                  have q877 : x52_2 < (t854.length : Int) := of_decide_eq_true (by first | (with_reducible assumption) | assumption)
                  obtain ⟨ad877, A877_0, c877_0, e877, hx877_0, hl877_0, hi877_0⟩ := at_L5 (Kd.S_reads' HO_6.out).2.2 x52_2 p877 q877
                  cases e877
                  obtain ⟨ce877, hce877, hMe877, hcc877⟩ := Kd.S_get HO_6.out [] x52_2 p877 (by first | exact q877 | exact of_decide_eq_true (by first | (with_reducible assumption) | assumption) | (have e_ := (Kd.S_reads' HO_6.out).1; omega))
                  obtain ⟨ve877_0, rfl, ge877_0⟩ := hMe877
                  have hv877_0 := hcc877 0 _ rfl
                  rw [Nat.add_zero, show ((Kd.slice 3 (Kd.int .i64))).sz = 1 from rfl, Nat.mul_one] at hv877_0
                  replace hv877_0 := Option.some.inj (hv877_0.symm.trans hx877_0)
                  rw [hv877_0] at ge877_0
                  have HL877_0 := Aside0.mk (show Kd.R (Kd.int .i64) 3 _ _ _ _ (rd_L5 t854 x52_2) from ge877_0)
                  clear hv877_0 ge877_0
                  clear hcc877 hce877
                  have HR877_0 := Aside0.mk hi877_0
                  have HC877_0 := Aside0.mk hl877_0
                  clear hi877_0 hl877_0
                  replace p877 := eq_true p877
                  replace q877 := eq_true q877
                  have p878 : 0 ≤ (0 : Int) := (by omega)
                  have q878 : 0 < ((rd_L5 t854 x52_2).length : Int) := of_decide_eq_true (by first | (with_reducible assumption) | assumption)
                  obtain ⟨ad878, e878, hx878_0⟩ := Kd.at_int (by repeat (first | (with_reducible exact HR877_0.out) | (with_reducible refine Kd.C_alloc ?_ _) | (with_reducible refine Kd.C_drewN ?_ _) | (with_reducible refine Kd.C_drew ?_) | exact HR877_0.out)) 0 p878 q878
                  cases e878
                  have qi878 : (0 < (rd_L5 t854 x52_2).length) = True := eq_true (by omega)
                  (try rw [show ((0 : Int)).toNat = 0 from rfl] at hx878_0)
                  (try rw [Addr.add_zero'] at hx878_0)
                  replace p878 := eq_true p878
                  replace q878 := eq_true q878
                  have p879 : 0 ≤ (x52_2 : Int) := of_decide_eq_true (by first | (with_reducible assumption) | assumption)
                  have q879 : x52_2 < (t872.length : Int) := of_decide_eq_true (by first | (with_reducible assumption) | assumption)
                  obtain ⟨ad879, A879_0, c879_0, e879, hx879_0, hl879_0, hi879_0⟩ := at_L5 (Kd.S_reads' HO_7.out).2.2 x52_2 p879 q879
                  obtain rfl : ad875 = ad879 := (by injection e879)
                  obtain ⟨ce879, hce879, hMe879, hcc879⟩ := Kd.S_get HO_7.out [] x52_2 p879 (by first | exact q879 | exact of_decide_eq_true (by first | (with_reducible assumption) | assumption) | (have e_ := (Kd.S_reads' HO_7.out).1; omega))
                  obtain ⟨ve879_0, rfl, ge879_0⟩ := hMe879
                  have hv879_0 := hcc879 0 _ rfl
                  rw [Nat.add_zero, show ((Kd.slice 3 (Kd.int .i64))).sz = 1 from rfl, Nat.mul_one] at hv879_0
                  replace hv879_0 := Option.some.inj (hv879_0.symm.trans hx879_0)
                  rw [hv879_0] at ge879_0
                  have HL879_0 := Aside0.mk (show Kd.R (Kd.int .i64) 3 _ _ _ _ (rd_L5 t872 x52_2) from ge879_0)
                  clear hv879_0 ge879_0
                  clear hcc879 hce879
                  have HR879_0 := Aside0.mk hi879_0
                  have HC879_0 := Aside0.mk hl879_0
                  clear hi879_0 hl879_0
                  replace p879 := eq_true p879
                  replace q879 := eq_true q879
                  have ea_ := Option.some.inj (hx875_0.symm.trans hx879_0)
                  injection ea_ with ea_ en_ ec_
                  subst ea_
                  subst ec_
                  clear en_
                  have p880 : 0 ≤ (0 : Int) := (by omega)
                  have q880 : 0 < ((rd_L5 t872 x52_2).length : Int) := of_decide_eq_true (by first | (with_reducible assumption) | assumption)
                  obtain ⟨ad880, e880, hx880_0⟩ := Kd.at_int (by repeat (first | (with_reducible exact HR879_0.out) | (with_reducible refine Kd.C_alloc ?_ _) | (with_reducible refine Kd.C_drewN ?_ _) | (with_reducible refine Kd.C_drew ?_) | exact HR879_0.out)) 0 p880 q880
                  cases e880
                  have qi880 : (0 < (rd_L5 t872 x52_2).length) = True := eq_true (by omega)
                  (try rw [show ((0 : Int)).toNat = 0 from rfl] at hx880_0)
                  (try rw [Addr.add_zero'] at hx880_0)
                  replace p880 := eq_true p880
                  replace q880 := eq_true q880
                  have p881 : 0 ≤ (x52_2 : Int) := of_decide_eq_true (by first | (with_reducible assumption) | assumption)
                  have q881 : x52_2 < (t854.length : Int) := of_decide_eq_true (by first | (with_reducible assumption) | assumption)
                  obtain ⟨ad881, A881_0, c881_0, e881, hx881_0, hl881_0, hi881_0⟩ := at_L5 (Kd.S_reads' HO_6.out).2.2 x52_2 p881 q881
                  obtain rfl : ad877 = ad881 := (by injection e881)
                  obtain ⟨ce881, hce881, hMe881, hcc881⟩ := Kd.S_get HO_6.out [] x52_2 p881 (by first | exact q881 | exact of_decide_eq_true (by first | (with_reducible assumption) | assumption) | (have e_ := (Kd.S_reads' HO_6.out).1; omega))
                  obtain ⟨ve881_0, rfl, ge881_0⟩ := hMe881
                  have hv881_0 := hcc881 0 _ rfl
                  rw [Nat.add_zero, show ((Kd.slice 3 (Kd.int .i64))).sz = 1 from rfl, Nat.mul_one] at hv881_0
                  replace hv881_0 := Option.some.inj (hv881_0.symm.trans hx881_0)
                  rw [hv881_0] at ge881_0
                  have HL881_0 := Aside0.mk (show Kd.R (Kd.int .i64) 3 _ _ _ _ (rd_L5 t854 x52_2) from ge881_0)
                  clear hv881_0 ge881_0
                  clear hcc881 hce881
                  have HR881_0 := Aside0.mk hi881_0
                  have HC881_0 := Aside0.mk hl881_0
                  clear hi881_0 hl881_0
                  replace p881 := eq_true p881
                  replace q881 := eq_true q881
                  have ea_ := Option.some.inj (hx877_0.symm.trans hx881_0)
                  injection ea_ with ea_ en_ ec_
                  subst ea_
                  subst ec_
                  clear en_
                  have p882 : 0 ≤ (0 : Int) := (by omega)
                  have q882 : 0 < ((rd_L5 t854 x52_2).length : Int) := of_decide_eq_true (by first | (with_reducible assumption) | assumption)
                  obtain ⟨ad882, e882, hx882_0⟩ := Kd.at_int (by repeat (first | (with_reducible exact HR881_0.out) | (with_reducible refine Kd.C_alloc ?_ _) | (with_reducible refine Kd.C_drewN ?_ _) | (with_reducible refine Kd.C_drew ?_) | exact HR881_0.out)) 0 p882 q882
                  cases e882
                  have qi882 : (0 < (rd_L5 t854 x52_2).length) = True := eq_true (by omega)
                  (try rw [show ((0 : Int)).toNat = 0 from rfl] at hx882_0)
                  (try rw [Addr.add_zero'] at hx882_0)
                  replace p882 := eq_true p882
                  replace q882 := eq_true q882
                  have p883 : 0 ≤ (x52_2 : Int) := of_decide_eq_true (by first | (with_reducible assumption) | assumption)
                  have q883 : x52_2 < (t872.length : Int) := of_decide_eq_true (by first | (with_reducible assumption) | assumption)
                  obtain ⟨ad883, A883_0, c883_0, e883, hx883_0, hl883_0, hi883_0⟩ := at_L5 (Kd.S_reads' HO_7.out).2.2 x52_2 p883 q883
                  obtain rfl : ad875 = ad883 := (by injection e883)
                  obtain ⟨ce883, hce883, hMe883, hcc883⟩ := Kd.S_get HO_7.out [] x52_2 p883 (by first | exact q883 | exact of_decide_eq_true (by first | (with_reducible assumption) | assumption) | (have e_ := (Kd.S_reads' HO_7.out).1; omega))
                  obtain ⟨ve883_0, rfl, ge883_0⟩ := hMe883
                  have hv883_0 := hcc883 0 _ rfl
                  rw [Nat.add_zero, show ((Kd.slice 3 (Kd.int .i64))).sz = 1 from rfl, Nat.mul_one] at hv883_0
                  replace hv883_0 := Option.some.inj (hv883_0.symm.trans hx883_0)
                  rw [hv883_0] at ge883_0
                  have HL883_0 := Aside0.mk (show Kd.R (Kd.int .i64) 3 _ _ _ _ (rd_L5 t872 x52_2) from ge883_0)
                  clear hv883_0 ge883_0
                  clear hcc883 hce883
                  have HR883_0 := Aside0.mk hi883_0
                  have HC883_0 := Aside0.mk hl883_0
                  clear hi883_0 hl883_0
                  replace p883 := eq_true p883
                  replace q883 := eq_true q883
                  have ea_ := Option.some.inj (hx875_0.symm.trans hx883_0)
                  injection ea_ with ea_ en_ ec_
                  subst ea_
                  subst ec_
                  clear en_
                  have p884 : 0 ≤ (1 : Int) := (by omega)
                  have q884 : 1 < ((rd_L5 t872 x52_2).length : Int) := of_decide_eq_true (by first | (with_reducible assumption) | assumption)
                  obtain ⟨ad884, e884, hx884_0⟩ := Kd.at_int (by repeat (first | (with_reducible exact HR883_0.out) | (with_reducible refine Kd.C_alloc ?_ _) | (with_reducible refine Kd.C_drewN ?_ _) | (with_reducible refine Kd.C_drew ?_) | exact HR883_0.out)) 1 p884 q884
                  cases e884
                  (try simp only [show (1 : Int).toNat = 1 from rfl, Nat.reduceMul, Nat.reduceEqDiff, Go.Addr.add, ↓reduceIte] at hx884_0)
                  have qi884 : (1 < (rd_L5 t872 x52_2).length) = True := eq_true (by omega)
                  (try rw [show ((1 : Int)).toNat = 1 from rfl] at hx884_0)
                  replace p884 := eq_true p884
                  replace q884 := eq_true q884
                  have p885 : 0 ≤ (x52_2 : Int) := of_decide_eq_true (by first | (with_reducible assumption) | assumption)
                  have q885 : x52_2 < (t854.length : Int) := of_decide_eq_true (by first | (with_reducible assumption) | assumption)
                  obtain ⟨ad885, A885_0, c885_0, e885, hx885_0, hl885_0, hi885_0⟩ := at_L5 (Kd.S_reads' HO_6.out).2.2 x52_2 p885 q885
                  obtain rfl : ad877 = ad885 := (by injection e885)
                  obtain ⟨ce885, hce885, hMe885, hcc885⟩ := Kd.S_get HO_6.out [] x52_2 p885 (by first | exact q885 | exact of_decide_eq_true (by first | (with_reducible assumption) | assumption) | (have e_ := (Kd.S_reads' HO_6.out).1; omega))
                  obtain ⟨ve885_0, rfl, ge885_0⟩ := hMe885
                  have hv885_0 := hcc885 0 _ rfl
                  rw [Nat.add_zero, show ((Kd.slice 3 (Kd.int .i64))).sz = 1 from rfl, Nat.mul_one] at hv885_0
                  replace hv885_0 := Option.some.inj (hv885_0.symm.trans hx885_0)
                  rw [hv885_0] at ge885_0
                  have HL885_0 := Aside0.mk (show Kd.R (Kd.int .i64) 3 _ _ _ _ (rd_L5 t854 x52_2) from ge885_0)
                  clear hv885_0 ge885_0
                  clear hcc885 hce885
                  have HR885_0 := Aside0.mk hi885_0
                  have HC885_0 := Aside0.mk hl885_0
                  clear hi885_0 hl885_0
                  replace p885 := eq_true p885
                  replace q885 := eq_true q885
                  have ea_ := Option.some.inj (hx877_0.symm.trans hx885_0)
                  injection ea_ with ea_ en_ ec_
                  subst ea_
                  subst ec_
                  clear en_
                  have p886 : 0 ≤ (1 : Int) := (by omega)
                  have q886 : 1 < ((rd_L5 t854 x52_2).length : Int) := of_decide_eq_true (by first | (with_reducible assumption) | assumption)
                  obtain ⟨ad886, e886, hx886_0⟩ := Kd.at_int (by repeat (first | (with_reducible exact HR885_0.out) | (with_reducible refine Kd.C_alloc ?_ _) | (with_reducible refine Kd.C_drewN ?_ _) | (with_reducible refine Kd.C_drew ?_) | exact HR885_0.out)) 1 p886 q886
                  cases e886
                  (try simp only [show (1 : Int).toNat = 1 from rfl, Nat.reduceMul, Nat.reduceEqDiff, Go.Addr.add, ↓reduceIte] at hx886_0)
                  have qi886 : (1 < (rd_L5 t854 x52_2).length) = True := eq_true (by omega)
                  (try rw [show ((1 : Int)).toNat = 1 from rfl] at hx886_0)
                  replace p886 := eq_true p886
                  replace q886 := eq_true q886
                  go_wp2
                  repeat (go_quiet (fail); try go_wp2)
                  go_roundg k2
                  case measure => have := HJ4.out; have := HK2.out; omega
                  case rel => exact ⟨(wrap64 (x52_2 + 1)), (by first | rfl | (simp; done) | (simp [*]; done)), H', ⟨by have := HJ4.out; have := HK2.out; omega⟩, ⟨by (with_reducible repeat (first | apply Kd.S_alloc | apply Kd.S_drewN | apply Kd.S_drew)); exact HO_6.out⟩, ⟨by (with_reducible repeat (first | apply Kd.S_alloc | apply Kd.S_drewN | apply Kd.S_drew)); exact HO_7.out⟩, ⟨by repeat (first | (with_reducible first | exact HB.out | apply below_alloc | apply pw_below_drewN | apply below_drew1) | exact HB.out)⟩⟩
                ·rw [if_neg c48] at H
                 exact absurd H (by simp)
               ·rw [if_neg c47] at H
                exact absurd H (by simp)
              ·rw [if_neg c46] at H
               have c46b0 : ((rd (rd_L5 t872 x52_2) 0) == (rd (rd_L5 t854 x52_2) 0)) = false := beq_eq_false_iff_ne.mpr c46
               have c46b1 : ((rd (rd_L5 t872 x52_2) 0) != (rd (rd_L5 t854 x52_2) 0)) = true := bne_iff_ne.mpr c46
               have H' := Aside0.mk H
               clear H
               obtain ⟨Ao52, co52, eo52⟩ := Kd.S_slice HO_7.out
               subst eo52
               have p875 : 0 ≤ (x52_2 : Int) := of_decide_eq_true (by first | (with_reducible assumption) | assumption)
               have q875 : x52_2 < (t872.length : Int) := of_decide_eq_true (by first | (with_reducible assumption) | assumption)
               obtain ⟨ad875, A875_0, c875_0, e875, hx875_0, hl875_0, hi875_0⟩ := at_L5 (Kd.S_reads' HO_7.out).2.2 x52_2 p875 q875
               cases e875
               obtain ⟨ce875, hce875, hMe875, hcc875⟩ := Kd.S_get HO_7.out [] x52_2 p875 (by first | exact q875 | exact of_decide_eq_true (by first | (with_reducible assumption) | assumption) | (have e_ := (Kd.S_reads' HO_7.out).1; omega))
               obtain ⟨ve875_0, rfl, ge875_0⟩ := hMe875
               have hv875_0 := hcc875 0 _ rfl
               rw [Nat.add_zero, show ((Kd.slice 3 (Kd.int .i64))).sz = 1 from rfl, Nat.mul_one] at hv875_0
               replace hv875_0 := Option.some.inj (hv875_0.symm.trans hx875_0)
               rw [hv875_0] at ge875_0
               have HL875_0 := Aside0.mk (show Kd.R (Kd.int .i64) 3 _ _ _ _ (rd_L5 t872 x52_2) from ge875_0)
               clear hv875_0 ge875_0
               clear hcc875 hce875
               have HR875_0 := Aside0.mk hi875_0
               have HC875_0 := Aside0.mk hl875_0
               clear hi875_0 hl875_0
               replace p875 := eq_true p875
               replace q875 := eq_true q875
               have p876 : 0 ≤ (0 : Int) := (by omega)
               have q876 : 0 < ((rd_L5 t872 x52_2).length : Int) := of_decide_eq_true (by first | (with_reducible assumption) | assumption)
               obtain ⟨ad876, e876, hx876_0⟩ := Kd.at_int (by repeat (first | (with_reducible exact HR875_0.out) | (with_reducible refine Kd.C_alloc ?_ _) | (with_reducible refine Kd.C_drewN ?_ _) | (with_reducible refine Kd.C_drew ?_) | exact HR875_0.out)) 0 p876 q876
               cases e876
               have qi876 : (0 < (rd_L5 t872 x52_2).length) = True := eq_true (by omega)
               (try rw [show ((0 : Int)).toNat = 0 from rfl] at hx876_0)
               (try rw [Addr.add_zero'] at hx876_0)
               replace p876 := eq_true p876
               replace q876 := eq_true q876
               have p877 : 0 ≤ (x52_2 : Int) := of_decide_eq_true (by first | (with_reducible assumption) | assumption)
               have q877 : x52_2 < (t854.length : Int) := of_decide_eq_true (by first | (with_reducible assumption) | assumption)
               obtain ⟨ad877, A877_0, c877_0, e877, hx877_0, hl877_0, hi877_0⟩ := at_L5 (Kd.S_reads' HO_6.out).2.2 x52_2 p877 q877
               cases e877
               obtain ⟨ce877, hce877, hMe877, hcc877⟩ := Kd.S_get HO_6.out [] x52_2 p877 (by first | exact q877 | exact of_decide_eq_true (by first | (with_reducible assumption) | assumption) | (have e_ := (Kd.S_reads' HO_6.out).1; omega))
               obtain ⟨ve877_0, rfl, ge877_0⟩ := hMe877
               have hv877_0 := hcc877 0 _ rfl
               rw [Nat.add_zero, show ((Kd.slice 3 (Kd.int .i64))).sz = 1 from rfl, Nat.mul_one] at hv877_0
               replace hv877_0 := Option.some.inj (hv877_0.symm.trans hx877_0)
               rw [hv877_0] at ge877_0
               have HL877_0 := Aside0.mk (show Kd.R (Kd.int .i64) 3 _ _ _ _ (rd_L5 t854 x52_2) from ge877_0)
               clear hv877_0 ge877_0
               clear hcc877 hce877
               have HR877_0 := Aside0.mk hi877_0
               have HC877_0 := Aside0.mk hl877_0
               clear hi877_0 hl877_0
               replace p877 := eq_true p877
               replace q877 := eq_true q877
               have p878 : 0 ≤ (0 : Int) := (by omega)
               have q878 : 0 < ((rd_L5 t854 x52_2).length : Int) := of_decide_eq_true (by first | (with_reducible assumption) | assumption)
               obtain ⟨ad878, e878, hx878_0⟩ := Kd.at_int (by repeat (first | (with_reducible exact HR877_0.out) | (with_reducible refine Kd.C_alloc ?_ _) | (with_reducible refine Kd.C_drewN ?_ _) | (with_reducible refine Kd.C_drew ?_) | exact HR877_0.out)) 0 p878 q878
               cases e878
               have qi878 : (0 < (rd_L5 t854 x52_2).length) = True := eq_true (by omega)
               (try rw [show ((0 : Int)).toNat = 0 from rfl] at hx878_0)
               (try rw [Addr.add_zero'] at hx878_0)
               replace p878 := eq_true p878
               replace q878 := eq_true q878
               have p879 : 0 ≤ (x52_2 : Int) := of_decide_eq_true (by first | (with_reducible assumption) | assumption)
               have q879 : x52_2 < (t872.length : Int) := of_decide_eq_true (by first | (with_reducible assumption) | assumption)
               obtain ⟨ad879, A879_0, c879_0, e879, hx879_0, hl879_0, hi879_0⟩ := at_L5 (Kd.S_reads' HO_7.out).2.2 x52_2 p879 q879
               obtain rfl : ad875 = ad879 := (by injection e879)
               obtain ⟨ce879, hce879, hMe879, hcc879⟩ := Kd.S_get HO_7.out [] x52_2 p879 (by first | exact q879 | exact of_decide_eq_true (by first | (with_reducible assumption) | assumption) | (have e_ := (Kd.S_reads' HO_7.out).1; omega))
               obtain ⟨ve879_0, rfl, ge879_0⟩ := hMe879
               have hv879_0 := hcc879 0 _ rfl
               rw [Nat.add_zero, show ((Kd.slice 3 (Kd.int .i64))).sz = 1 from rfl, Nat.mul_one] at hv879_0
               replace hv879_0 := Option.some.inj (hv879_0.symm.trans hx879_0)
               rw [hv879_0] at ge879_0
               have HL879_0 := Aside0.mk (show Kd.R (Kd.int .i64) 3 _ _ _ _ (rd_L5 t872 x52_2) from ge879_0)
               clear hv879_0 ge879_0
               clear hcc879 hce879
               have HR879_0 := Aside0.mk hi879_0
               have HC879_0 := Aside0.mk hl879_0
               clear hi879_0 hl879_0
               replace p879 := eq_true p879
               replace q879 := eq_true q879
               have ea_ := Option.some.inj (hx875_0.symm.trans hx879_0)
               injection ea_ with ea_ en_ ec_
               subst ea_
               subst ec_
               clear en_
               have p880 : 0 ≤ (0 : Int) := (by omega)
               have q880 : 0 < ((rd_L5 t872 x52_2).length : Int) := of_decide_eq_true (by first | (with_reducible assumption) | assumption)
               obtain ⟨ad880, e880, hx880_0⟩ := Kd.at_int (by repeat (first | (with_reducible exact HR879_0.out) | (with_reducible refine Kd.C_alloc ?_ _) | (with_reducible refine Kd.C_drewN ?_ _) | (with_reducible refine Kd.C_drew ?_) | exact HR879_0.out)) 0 p880 q880
               cases e880
               have qi880 : (0 < (rd_L5 t872 x52_2).length) = True := eq_true (by omega)
               (try rw [show ((0 : Int)).toNat = 0 from rfl] at hx880_0)
               (try rw [Addr.add_zero'] at hx880_0)
               replace p880 := eq_true p880
               replace q880 := eq_true q880
               have p881 : 0 ≤ (x52_2 : Int) := of_decide_eq_true (by first | (with_reducible assumption) | assumption)
               have q881 : x52_2 < (t854.length : Int) := of_decide_eq_true (by first | (with_reducible assumption) | assumption)
               obtain ⟨ad881, A881_0, c881_0, e881, hx881_0, hl881_0, hi881_0⟩ := at_L5 (Kd.S_reads' HO_6.out).2.2 x52_2 p881 q881
               obtain rfl : ad877 = ad881 := (by injection e881)
               obtain ⟨ce881, hce881, hMe881, hcc881⟩ := Kd.S_get HO_6.out [] x52_2 p881 (by first | exact q881 | exact of_decide_eq_true (by first | (with_reducible assumption) | assumption) | (have e_ := (Kd.S_reads' HO_6.out).1; omega))
               obtain ⟨ve881_0, rfl, ge881_0⟩ := hMe881
               have hv881_0 := hcc881 0 _ rfl
               rw [Nat.add_zero, show ((Kd.slice 3 (Kd.int .i64))).sz = 1 from rfl, Nat.mul_one] at hv881_0
               replace hv881_0 := Option.some.inj (hv881_0.symm.trans hx881_0)
               rw [hv881_0] at ge881_0
               have HL881_0 := Aside0.mk (show Kd.R (Kd.int .i64) 3 _ _ _ _ (rd_L5 t854 x52_2) from ge881_0)
               clear hv881_0 ge881_0
               clear hcc881 hce881
               have HR881_0 := Aside0.mk hi881_0
               have HC881_0 := Aside0.mk hl881_0
               clear hi881_0 hl881_0
               replace p881 := eq_true p881
               replace q881 := eq_true q881
               have ea_ := Option.some.inj (hx877_0.symm.trans hx881_0)
               injection ea_ with ea_ en_ ec_
               subst ea_
               subst ec_
               clear en_
               have p882 : 0 ≤ (0 : Int) := (by omega)
               have q882 : 0 < ((rd_L5 t854 x52_2).length : Int) := of_decide_eq_true (by first | (with_reducible assumption) | assumption)
               obtain ⟨ad882, e882, hx882_0⟩ := Kd.at_int (by repeat (first | (with_reducible exact HR881_0.out) | (with_reducible refine Kd.C_alloc ?_ _) | (with_reducible refine Kd.C_drewN ?_ _) | (with_reducible refine Kd.C_drew ?_) | exact HR881_0.out)) 0 p882 q882
               cases e882
               have qi882 : (0 < (rd_L5 t854 x52_2).length) = True := eq_true (by omega)
               (try rw [show ((0 : Int)).toNat = 0 from rfl] at hx882_0)
               (try rw [Addr.add_zero'] at hx882_0)
               replace p882 := eq_true p882
               replace q882 := eq_true q882
               go_wp2
               repeat (go_quiet (fail); try go_wp2)
               go_roundg k2
               case measure => have := HJ4.out; have := HK2.out; omega
               case rel => exact ⟨(wrap64 (x52_2 + 1)), (by first | rfl | (simp; done) | (simp [*]; done)), H', ⟨by have := HJ4.out; have := HK2.out; omega⟩, ⟨by (with_reducible repeat (first | apply Kd.S_alloc | apply Kd.S_drewN | apply Kd.S_drew)); exact HO_6.out⟩, ⟨by (with_reducible repeat (first | apply Kd.S_alloc | apply Kd.S_drewN | apply Kd.S_drew)); exact HO_7.out⟩, ⟨by repeat (first | (with_reducible first | exact HB.out | apply below_alloc | apply pw_below_drewN | apply below_drew1) | exact HB.out)⟩⟩
            ·rw [if_neg c43] at H
             exact absurd H (by simp)
           ·rw [if_neg c42] at H
            exact absurd H (by simp)
          ·rw [if_neg c41] at H
           exact absurd H (by simp)
         ·rw [if_neg c40] at H
          exact absurd H (by simp)
        ·rw [if_neg c39] at H
         exact absurd H (by simp)
       ·rw [if_neg c38] at H
        have c38b0 : decide (x52_2 < t849) = false := decide_eq_false c38
        clear c38
        obtain rfl := Option.some.inj H
        obtain ⟨Ao53, co53, eo53⟩ := Kd.S_slice HO_7.out
        subst eo53
        go_wp2
        repeat (go_quiet (fail); try go_wp2)
        go_ret
        exact ⟨by first | rfl | (simp [errW_none, errW_some] <;> rfl) | (simp [*, errW_none, errW_some] <;> rfl), by repeat (first | (with_reducible first | exact HB.out | apply below_alloc | apply pw_below_drewN | apply below_drew1) | exact HB.out)⟩

/-- THE ONE PURE STATEMENT of laws_FnClaimsBetter: yours. -/
def laws_FnClaimsBetter.Pure : Prop := ∀ (l0 : List Int), l0.length ≤ maxLen → l0.length * 1 ≤ 140737488351232 → (∀ x ∈ l0, (Lit.int .u8 x).wf = true) → ∃ k, laws_FnClaimsBetter.f k l0 = some true
theorem laws_FnClaimsBetter.walk (P : laws_FnClaimsBetter.Pure) (a0 : Option Addr) (len0 cap0 : Nat) (z0 : List Int) (w : World) (w0 : (a0 = none ∧ len0 = 0 ∧ cap0 = 0 ∧ z0 = []) ∨ ∃ x, a0 = some x ∧ len0 ≤ cap0 ∧ cap0 ≤ maxLen ∧ z0.length = cap0 ∧ (∀ i, i < z0.length → w.cell? (x.add i) = some (.int .u8 (z0.getD i 0))) ∧ ∀ n ∈ z0, (Lit.int .u8 n).wf = true) (y0 : len0 * 1 ≤ 140737488351232) :
  Calls Try.prog 13 #[.slice a0 len0 cap0] w fun e w' => e = .returned (.bool true) ∧ Below w.heap.size w w' := by
 obtain ⟨l0, rfl, hr0, hm0, hw0, hc0⟩ := ReadsInt.ofRowC w0
 obtain ⟨k, h⟩ := P l0 hm0 y0 hw0
 refine (laws_FnClaimsBetter.calls k _ _ l0 true w (Kd.C_of_reads (d := (0 : Int)) (h1 := fun _ => rfl) hr0) hc0 h).mono ?_
 rintro e w' ⟨rfl, hd⟩
 exact ⟨rfl, hd⟩

end Go.Proofs.Ytegnghbgkiddoaa.PA
