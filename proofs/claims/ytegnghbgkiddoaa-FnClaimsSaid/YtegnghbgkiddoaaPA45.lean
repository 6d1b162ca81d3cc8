-- Laid by this session's own program (pr.py) over the translation; Lean checks it.
import Derived.Test.YtegnghbgkiddoaaPA0
import Derived.Test.YtegnghbgkiddoaaPA15
import Derived.Test.YtegnghbgkiddoaaPA24
import Derived.Test.YtegnghbgkiddoaaPA26
import Derived.Test.YtegnghbgkiddoaaPA27
import Derived.Test.YtegnghbgkiddoaaPA30
import Derived.Test.YtegnghbgkiddoaaPA32
import Derived.Test.YtegnghbgkiddoaaPA33
import Derived.Test.YtegnghbgkiddoaaPA36
import Derived.Test.YtegnghbgkiddoaaPA44
import Derived.Test.YtegnghbgkiddoaaHSq
namespace Go.Proofs.Ytegnghbgkiddoaa.PA
open Go.RowKit Go.Proofs.YtegnghbgkiddoaaW.PrintWords Go.Proofs.YtegnghbgkiddoaaW.PrintLast Go.Proofs.YtegnghbgkiddoaaW.PrintMore
attribute [local go_sem] max2_int min2_int max_two min_two max_three min_three max_four min_four   -- for this text's walks alone
set_option linter.unusedVariables false
set_option linter.unusedSimpArgs false

/-! ### laws_FnClaims: function 7 -/
-- IMPORT HSq
mutual
def laws_FnClaims.j0 : Nat → Int → List (S44) → Int → List (List Int) → Bool → Option (Bool)
 | 0, _, _, _, _, _ => none
 | k + 1, x3, x4, x5, x6, x40 => if x40 = true then ((spec_ClaimsAfter.f k x3 x4 x5).bind fun t685 => ((laws_wnPairs.f k x6 t685).bind fun t688 => (some t688))) else ((impl_CostsOf.f k x3 x4).bind fun t689 => ((impl_TreeOf.f k x3 x4).bind fun t692 => (laws_FnClaims.l0 k x3 x4 x6 t689 t692 x6 (x6.length : Int) 0)))
def laws_FnClaims.l0 : Nat → Int → List (S44) → List (List Int) → List Int → List Int → List (List Int) → Int → Int → Option (Bool)
 | 0, _, _, _, _, _, _, _, _ => none
 | k + 1, x3, x4, x6, x7, x8, x53, x54, x55 => if x55 < x54 then (if 0 ≤ x55 then (if x55 < (x53.length : Int) then (if 0 < ((rd_L5 x53 x55).length : Int) then ((impl_RootOf.f k x3 x4 x55).bind fun t701 => (if (rd (rd_L5 x53 x55) 0) = t701 then (if 1 < ((rd_L5 x53 x55).length : Int) then (if x55 < (x7.length : Int) then (if (rd (rd_L5 x53 x55) 1) = (rd x7 x55) then (if 3 < ((rd_L5 x53 x55).length : Int) then (if (rd (rd_L5 x53 x55) 3) ≥ 0 then ((laws_wnHas.f k x8 (rd (rd_L5 x53 x55) 3)).bind fun t706 => (if t706 = true then (if ((decide ((rd (rd_L5 x53 x55) 3) < 0)) != ((rd x7 x55) == 0)) = true then (some false) else (laws_FnClaims.l0 k x3 x4 x6 x7 x8 x53 x54 (wrap64 (x55 + 1)))) else (some false))) else (if ((decide ((rd (rd_L5 x53 x55) 3) < 0)) != ((rd x7 x55) == 0)) = true then (some false) else (laws_FnClaims.l0 k x3 x4 x6 x7 x8 x53 x54 (wrap64 (x55 + 1))))) else (none)) else (some false)) else (none)) else (none)) else (some false))) else (none)) else (none)) else (none)) else ((impl_NextClaims.f k x3 x4 x6).bind fun t695 => ((laws_wnPairs.f k t695 x6).bind fun t698 => (some t698)))
end
def laws_FnClaims.f (k : Nat) (l0 : List Int) : Option (Bool) := if (l0.length : Int) > 1048576 then (some true) else ((spec_DrawClaimsAfter.f k l0).bind fun bt673 => ((impl_ClaimsAfter.f k bt673.1 bt673.2.1 bt673.2.2).bind fun t678 => ((spec_ClaimsAfter.f k bt673.1 bt673.2.1 bt673.2.2).bind fun t681 => ((laws_wnPairs.f k t678 t681).bind fun t684 => (if t684 = true then (if (t678.length : Int) = 0 then (laws_FnClaims.j0 k bt673.1 bt673.2.1 bt673.2.2 t678 true) else (laws_FnClaims.j0 k bt673.1 bt673.2.1 bt673.2.2 t678 (decide (bt673.2.2 < bt673.1)))) else (laws_FnClaims.j0 k bt673.1 bt673.2.1 bt673.2.2 t678 true))))))
def laws_FnClaims.T12 : Bool × List (List Nat × List Nat) := (true, [([], []), ([0], [0]), ([1], [1]), ([], []), ([], []), ([], []), ([3, 4, 5], [3, 4, 5]), ([2, 6], [2, 6]), ([7, 6], [7]), ([8], [8]), ([9, 8], [8, 9]), ([10, 8], [8, 10]), ([8], [8]), ([8], [8]), ([12, 13, 8], [8, 12, 13]), ([14, 8], [8, 14]), ([11, 15, 8], [8, 11, 15]), ([8, 16], [8, 16]), ([17, 8], [17]), ([18], [18]), ([19, 18], [18, 19]), ([20, 18], [18, 20]), ([21, 18], [18, 21]), ([22, 18, 18], [18, 22]), ([23], [23]), ([23], [23]), ([25, 23], [23, 25]), ([26, 23], [23, 26]), ([24, 27, 23, 23], [23, 24, 27]), ([28, 23], [23, 28]), ([23, 29, 18], [18, 23, 29]), ([18, 30], [18, 30]), ([31, 28], [31]), ([32], [32]), ([33, 32], [32, 33]), ([34, 32], [32, 34]), ([35, 32], [32, 35]), ([32], [32]), ([32], [32]), ([37, 38, 32], [32, 37, 38]), ([39, 32], [32, 39]), ([40, 32], [32, 40]), ([36, 41, 32], [32, 36, 41]), ([32, 42], [32, 42])])
def laws_FnClaims.B12 : List Nat := [0, 1, 3, 0, 0, 0, 56, 127, 255, 511, 1023, 2047, 511, 511, 12799, 29183, 65535, 131071, 262143, 524287, 1048575, 2097151, 4194303, 8388607, 16777215, 16777215, 50331647, 117440511, 268435455, 536870911, 1073741823, 2147483647, 4294967295, 8589934591, 17179869183, 34359738367, 68719476735, 8589934591, 8589934591, 420906795007, 970662608895, 2070174236671, 4398046511103, 8796093022207]
theorem laws_FnClaims.tab12 : rtab .any (opsOf Try.f7 12) = laws_FnClaims.T12 := by kernel_rfl
theorem laws_FnClaims.bits12 : waitsOk laws_FnClaims.T12.2 laws_FnClaims.B12 = true := by kernel_rfl
set_option maxHeartbeats 8000000 in
set_option maxRecDepth 100000 in
theorem laws_FnClaims.calls (k : Nat) (A0 : Option Addr) (c0 : Nat) (l0 : List Int) (r : Bool) (w : World) (hr0 : Kd.C (Kd.int .u8) w A0 l0.length l0) (hc0 : l0.length ≤ c0) (h : laws_FnClaims.f k l0 = some r) :
  Calls Try.prog 7 #[.slice A0 l0.length c0] w fun e w' => e = .returned (.bool r) ∧ Below w.heap.size w w' := by
 have HR0 := Aside0.mk hr0
 have HC0 := Aside0.mk hc0
 clear hr0 hc0
 have HB := Aside0.mk (Below.refl w.heap.size w)
 have H : (if (l0.length : Int) > 1048576 then (some true) else ((spec_DrawClaimsAfter.f k l0).bind fun bt673 => ((impl_ClaimsAfter.f k bt673.1 bt673.2.1 bt673.2.2).bind fun t678 => ((spec_ClaimsAfter.f k bt673.1 bt673.2.1 bt673.2.2).bind fun t681 => ((laws_wnPairs.f k t678 t681).bind fun t684 => (if t684 = true then (if (t678.length : Int) = 0 then (laws_FnClaims.j0 k bt673.1 bt673.2.1 bt673.2.2 t678 true) else (laws_FnClaims.j0 k bt673.1 bt673.2.1 bt673.2.2 t678 (decide (bt673.2.2 < bt673.1)))) else (laws_FnClaims.j0 k bt673.1 bt673.2.1 bt673.2.2 t678 true))))))) = some r := h
 clear h
 by_cases c2 : (l0.length : Int) > 1048576
 ·rw [if_pos c2] at H
  have c2b0 : decide (1048576 < (l0.length : Int)) = true := decide_eq_true c2
  have c2b1 : decide (1048576 < l0.length) = true := decide_eq_true (by omega)
  clear c2
  obtain rfl := Option.some.inj H
  go_enter Try.func7, Try.ntmps7
  go_wp2
  go_ret
  exact ⟨fe, bw HB.out⟩
 ·rw [if_neg c2] at H
  have c2b0 : decide (1048576 < (l0.length : Int)) = false := decide_eq_false c2
  have c2b1 : decide (1048576 < l0.length) = false := decide_eq_false (by omega)
  clear c2
  replace H := Option.bind_eq_some_iff.mp H
  obtain ⟨⟨t673, t674, t675⟩, A30, H⟩ := H
  try dsimp only at H
  have A3 := Aside0.mk A30
  clear A30
  replace H := Option.bind_eq_some_iff.mp H
  obtain ⟨t678, A40, H⟩ := H
  try dsimp only at H
  have A4 := Aside0.mk A40
  clear A40
  have HC5 := Aside0.mk H
  clear H
  go_enter Try.func7, Try.ntmps7
  go_upto_region 5 with (first | ((with_reducible refine gate_callee (f := 42) rfl ?_); refine goesL_ (some 16) rfl rfl Try.func42 (by kernel_rfl) rfl #[.slice A0 l0.length c0] rfl (by (try simp only [List.map_toArray, List.map_cons, List.map_nil]); first | done | rfl | (simp only [List.length_drop, List.length_take]; rfl)) ?_; (with_reducible refine (spec_DrawClaimsAfter.calls k _ _ l0 t673 t674 t675 _ ?side1 ?side2 A3.out).mono ?_); (case side1 => repeat (first | exact HR0.out | (with_reducible refine Kd.C_alloc ?_ _) | (with_reducible refine Kd.C_drewN ?_ _) | (with_reducible refine Kd.C_drew ?_))); (case side2 => exact HC0.out); rintro e w6 ⟨v676, rfl, ho0, hb⟩; refine ⟨_, rfl, ?_⟩; have n0_ := Aside0.mk (Kd.R_lower ho0 (below_size (bw HB.out))); have n1_ := Aside0.mk (below_step (bw HB.out) hb); clear HB; have HO677 := n0_; have HB := n1_; clear n0_ n1_; (try clear hb); (try clear hb2); (try clear hk); (try clear hi); (try clear ho0); obtain ⟨Ao7, co7, eo7⟩ := Kd.R_slice HO677.out; subst eo7) | ((with_reducible refine gate_callee (f := 43) rfl ?_); refine goesL_ (some 23) rfl rfl Try.func43 (by kernel_rfl) rfl #[.int .i64 t673, .slice Ao7 t674.length co7, .int .i64 t675] rfl (by (try simp only [List.map_toArray, List.map_cons, List.map_nil]); first | done | rfl | (simp only [List.length_drop, List.length_take]; rfl)) ?_; (with_reducible refine (impl_ClaimsAfter.calls k t673 _ _ t674 t675 t678 _ ?side1 ?side2 A4.out).mono ?_); (case side1 => repeat (first | exact (Kd.R_reads' HO677.out).2.2 | (with_reducible refine Kd.C_alloc ?_ _) | (with_reducible refine Kd.C_drewN ?_ _) | (with_reducible refine Kd.C_drew ?_))); (case side2 => exact (Kd.R_reads' HO677.out).2.1); rintro e w8 ⟨v679, rfl, ho0, hb⟩; refine ⟨_, rfl, ?_⟩; have n0_ := Aside0.mk (Kd.R_below (ru HO677.out) hb); have n1_ := Aside0.mk (Kd.S_lower ho0 (below_size (bw HB.out))); have n2_ := Aside0.mk (below_step (bw HB.out) hb); clear HO677; clear HB; have HO677 := n0_; have HO680 := n1_; have HB := n2_; clear n0_ n1_ n2_; (try clear hb); (try clear hb2); (try clear hk); (try clear hi); (try clear ho0)))
  (try simp only [Act.put, List.setIfInBounds_toArray, List.set_cons_zero, List.set_cons_succ])
  go_cut [40] (fun v40 wc => ∃ (kq : Nat) (x40_4 : Bool), v40 = .bool x40_4 ∧ Aside0 (laws_FnClaims.j0 kq t673 t674 t675 t678 x40_4 = some r) ∧ Aside0 (kq ≤ k) ∧ Aside0 (Kd.R k44 44 wc w.heap.size (fun _ => True) (.slice Ao7 t674.length co7) t674) ∧ Aside0 (Kd.S (Kd.slice 3 (Kd.int .i64)) 24 wc w.heap.size (fun _ => True) v679 t678) ∧ Aside0 (Below w.heap.size w wc))
  case first =>
   have H := HC5.out
   clear HC5
   replace H := Option.bind_eq_some_iff.mp H
   obtain ⟨t681, A90, H⟩ := H
   try dsimp only at H
   have A9 := Aside0.mk A90
   clear A90
   replace H := Option.bind_eq_some_iff.mp H
   obtain ⟨t684, A100, H⟩ := H
   try dsimp only at H
   have A10 := Aside0.mk A100
   clear A100
   by_cases c11 : t684 = true
   ·subst c11
    rw [if_pos rfl] at H
    by_cases c12 : (t678.length : Int) = 0
    ·rw [if_pos c12] at H
     have c12b0 : ((t678.length : Int) == 0) = true := beq_iff_eq.mpr c12
     have c12b1 : ((t678.length : Int) != 0) = false := bne_eq_false_iff_eq.mpr c12
     clear c12
     (first | rw [c12b0] | (simp only [i64_w, i32_w]; rw [c12b0]) | skip)
     have H' := Aside0.mk H
     clear H
     go_wp2_with (first | ((with_reducible refine gate_callee (f := 45) rfl ?_); refine goesL_ (some 28) rfl rfl Try.func45 (by kernel_rfl) rfl #[.int .i64 t673, .slice Ao7 t674.length co7, .int .i64 t675] rfl (by (try simp only [List.map_toArray, List.map_cons, List.map_nil]); first | done | rfl | (simp only [List.length_drop, List.length_take]; rfl)) ?_; (with_reducible refine (spec_ClaimsAfter.calls k t673 _ _ t674 t675 t681 _ ?side1 ?side2 A9.out).mono ?_); (case side1 => repeat (first | exact (Kd.R_reads' HO677.out).2.2 | (with_reducible refine Kd.C_alloc ?_ _) | (with_reducible refine Kd.C_drewN ?_ _) | (with_reducible refine Kd.C_drew ?_))); (case side2 => exact (Kd.R_reads' HO677.out).2.1); rintro e w13 ⟨v682, rfl, ho0, hb⟩; refine ⟨_, rfl, ?_⟩; have n0_ := Aside0.mk (Kd.R_below (ru HO677.out) hb); have n1_ := Aside0.mk (Kd.S_elder' (by (with_reducible repeat (first | apply Kd.S_alloc | apply Kd.S_drewN | apply Kd.S_drew)); exact HO680.out) (Kd.S_base ho0) hb); have n2_ := Aside0.mk (Kd.S_lower (Kd.S_new' ho0 (Kd.S_lt (by (with_reducible repeat (first | apply Kd.S_alloc | apply Kd.S_drewN | apply Kd.S_drew)); exact HO680.out))) (below_size (bw HB.out))); have n3_ := Aside0.mk (below_step (bw HB.out) hb); clear HO677; clear HO680; clear HB; have HO677 := n0_; have HO680 := n1_; have HO683 := n2_; have HB := n3_; clear n0_ n1_ n2_ n3_; (try clear hb); (try clear hb2); (try clear hk); (try clear hi); (try clear ho0); obtain ⟨Ao14, co14, eo14⟩ := Kd.S_slice HO680.out; subst eo14; obtain ⟨Ao15, co15, eo15⟩ := Kd.S_slice HO683.out; subst eo15) | ((with_reducible refine gate_callee (f := 44) rfl ?_); refine goesL_ (some 29) rfl rfl Try.func44 (by kernel_rfl) rfl #[.slice Ao14 t678.length co14, .slice Ao15 t681.length co15] rfl (by (try simp only [List.map_toArray, List.map_cons, List.map_nil]); first | done | rfl | (simp only [List.length_drop, List.length_take]; rfl)) ?_; (with_reducible refine (laws_wnPairs.calls k _ _ t678 _ _ t681 true _ ?side1 ?side2 ?side3 ?side4 A10.out).mono ?_); (case side1 => repeat (first | exact (Kd.S_reads' HO680.out).2.2 | (with_reducible refine Kd.C_alloc ?_ _) | (with_reducible refine Kd.C_drewN ?_ _) | (with_reducible refine Kd.C_drew ?_))); (case side2 => exact (Kd.S_reads' HO680.out).2.1); (case side3 => repeat (first | exact (Kd.S_reads' HO683.out).2.2 | (with_reducible refine Kd.C_alloc ?_ _) | (with_reducible refine Kd.C_drewN ?_ _) | (with_reducible refine Kd.C_drew ?_))); (case side4 => exact (Kd.S_reads' HO683.out).2.1); rintro e w' ⟨rfl, ⟨nd, rfl⟩⟩; refine ⟨_, rfl, ?_⟩))
     go_meet
     case rel => exact ⟨_, (true), fs, H', ⟨by first | omega | exact Nat.le_refl _⟩, ⟨ru HO677.out⟩, ⟨by (with_reducible repeat (first | apply Kd.S_alloc | apply Kd.S_drewN | apply Kd.S_drew)); exact Kd.S_mono HO680.out (fun _ hk => trivial)⟩, ⟨bw HB.out⟩⟩
    ·rw [if_neg c12] at H
     have c12b0 : ((t678.length : Int) == 0) = false := beq_eq_false_iff_ne.mpr c12
     have c12b1 : ((t678.length : Int) != 0) = true := bne_iff_ne.mpr c12
     have c12b2 : ¬ (t678 = []) := fun h_ => c12 (by rw [h_]; rfl)
     (first | rw [c12b0] | (simp only [i64_w, i32_w]; rw [c12b0]) | skip)
     have H' := Aside0.mk H
     clear H
     go_wp2_with (first | ((with_reducible refine gate_callee (f := 45) rfl ?_); refine goesL_ (some 28) rfl rfl Try.func45 (by kernel_rfl) rfl #[.int .i64 t673, .slice Ao7 t674.length co7, .int .i64 t675] rfl (by (try simp only [List.map_toArray, List.map_cons, List.map_nil]); first | done | rfl | (simp only [List.length_drop, List.length_take]; rfl)) ?_; (with_reducible refine (spec_ClaimsAfter.calls k t673 _ _ t674 t675 t681 _ ?side1 ?side2 A9.out).mono ?_); (case side1 => repeat (first | exact (Kd.R_reads' HO677.out).2.2 | (with_reducible refine Kd.C_alloc ?_ _) | (with_reducible refine Kd.C_drewN ?_ _) | (with_reducible refine Kd.C_drew ?_))); (case side2 => exact (Kd.R_reads' HO677.out).2.1); rintro e w16 ⟨v682, rfl, ho0, hb⟩; refine ⟨_, rfl, ?_⟩; have n0_ := Aside0.mk (Kd.R_below (ru HO677.out) hb); have n1_ := Aside0.mk (Kd.S_elder' (by (with_reducible repeat (first | apply Kd.S_alloc | apply Kd.S_drewN | apply Kd.S_drew)); exact HO680.out) (Kd.S_base ho0) hb); have n2_ := Aside0.mk (Kd.S_lower (Kd.S_new' ho0 (Kd.S_lt (by (with_reducible repeat (first | apply Kd.S_alloc | apply Kd.S_drewN | apply Kd.S_drew)); exact HO680.out))) (below_size (bw HB.out))); have n3_ := Aside0.mk (below_step (bw HB.out) hb); clear HO677; clear HO680; clear HB; have HO677 := n0_; have HO680 := n1_; have HO683 := n2_; have HB := n3_; clear n0_ n1_ n2_ n3_; (try clear hb); (try clear hb2); (try clear hk); (try clear hi); (try clear ho0); obtain ⟨Ao17, co17, eo17⟩ := Kd.S_slice HO680.out; subst eo17; obtain ⟨Ao18, co18, eo18⟩ := Kd.S_slice HO683.out; subst eo18) | ((with_reducible refine gate_callee (f := 44) rfl ?_); refine goesL_ (some 29) rfl rfl Try.func44 (by kernel_rfl) rfl #[.slice Ao17 t678.length co17, .slice Ao18 t681.length co18] rfl (by (try simp only [List.map_toArray, List.map_cons, List.map_nil]); first | done | rfl | (simp only [List.length_drop, List.length_take]; rfl)) ?_; (with_reducible refine (laws_wnPairs.calls k _ _ t678 _ _ t681 true _ ?side1 ?side2 ?side3 ?side4 A10.out).mono ?_); (case side1 => repeat (first | exact (Kd.S_reads' HO680.out).2.2 | (with_reducible refine Kd.C_alloc ?_ _) | (with_reducible refine Kd.C_drewN ?_ _) | (with_reducible refine Kd.C_drew ?_))); (case side2 => exact (Kd.S_reads' HO680.out).2.1); (case side3 => repeat (first | exact (Kd.S_reads' HO683.out).2.2 | (with_reducible refine Kd.C_alloc ?_ _) | (with_reducible refine Kd.C_drewN ?_ _) | (with_reducible refine Kd.C_drew ?_))); (case side4 => exact (Kd.S_reads' HO683.out).2.1); rintro e w' ⟨rfl, ⟨nd, rfl⟩⟩; refine ⟨_, rfl, ?_⟩))
     go_meet
     case rel => exact ⟨_, (decide (t675 < t673)), fs, H', ⟨by first | omega | exact Nat.le_refl _⟩, ⟨ru HO677.out⟩, ⟨by (with_reducible repeat (first | apply Kd.S_alloc | apply Kd.S_drewN | apply Kd.S_drew)); exact Kd.S_mono HO680.out (fun _ hk => trivial)⟩, ⟨bw HB.out⟩⟩
   ·replace c11 := Bool.eq_false_iff.mpr c11
    subst c11
    rw [if_neg (show ¬ (false = true) by decide)] at H
    have H' := Aside0.mk H
    clear H
    go_wp2_with (first | ((with_reducible refine gate_callee (f := 45) rfl ?_); refine goesL_ (some 28) rfl rfl Try.func45 (by kernel_rfl) rfl #[.int .i64 t673, .slice Ao7 t674.length co7, .int .i64 t675] rfl (by (try simp only [List.map_toArray, List.map_cons, List.map_nil]); first | done | rfl | (simp only [List.length_drop, List.length_take]; rfl)) ?_; (with_reducible refine (spec_ClaimsAfter.calls k t673 _ _ t674 t675 t681 _ ?side1 ?side2 A9.out).mono ?_); (case side1 => repeat (first | exact (Kd.R_reads' HO677.out).2.2 | (with_reducible refine Kd.C_alloc ?_ _) | (with_reducible refine Kd.C_drewN ?_ _) | (with_reducible refine Kd.C_drew ?_))); (case side2 => exact (Kd.R_reads' HO677.out).2.1); rintro e w19 ⟨v682, rfl, ho0, hb⟩; refine ⟨_, rfl, ?_⟩; have n0_ := Aside0.mk (Kd.R_below (ru HO677.out) hb); have n1_ := Aside0.mk (Kd.S_elder' (by (with_reducible repeat (first | apply Kd.S_alloc | apply Kd.S_drewN | apply Kd.S_drew)); exact HO680.out) (Kd.S_base ho0) hb); have n2_ := Aside0.mk (Kd.S_lower (Kd.S_new' ho0 (Kd.S_lt (by (with_reducible repeat (first | apply Kd.S_alloc | apply Kd.S_drewN | apply Kd.S_drew)); exact HO680.out))) (below_size (bw HB.out))); have n3_ := Aside0.mk (below_step (bw HB.out) hb); clear HO677; clear HO680; clear HB; have HO677 := n0_; have HO680 := n1_; have HO683 := n2_; have HB := n3_; clear n0_ n1_ n2_ n3_; (try clear hb); (try clear hb2); (try clear hk); (try clear hi); (try clear ho0); obtain ⟨Ao20, co20, eo20⟩ := Kd.S_slice HO680.out; subst eo20; obtain ⟨Ao21, co21, eo21⟩ := Kd.S_slice HO683.out; subst eo21) | ((with_reducible refine gate_callee (f := 44) rfl ?_); refine goesL_ (some 29) rfl rfl Try.func44 (by kernel_rfl) rfl #[.slice Ao20 t678.length co20, .slice Ao21 t681.length co21] rfl (by (try simp only [List.map_toArray, List.map_cons, List.map_nil]); first | done | rfl | (simp only [List.length_drop, List.length_take]; rfl)) ?_; (with_reducible refine (laws_wnPairs.calls k _ _ t678 _ _ t681 false _ ?side1 ?side2 ?side3 ?side4 A10.out).mono ?_); (case side1 => repeat (first | exact (Kd.S_reads' HO680.out).2.2 | (with_reducible refine Kd.C_alloc ?_ _) | (with_reducible refine Kd.C_drewN ?_ _) | (with_reducible refine Kd.C_drew ?_))); (case side2 => exact (Kd.S_reads' HO680.out).2.1); (case side3 => repeat (first | exact (Kd.S_reads' HO683.out).2.2 | (with_reducible refine Kd.C_alloc ?_ _) | (with_reducible refine Kd.C_drewN ?_ _) | (with_reducible refine Kd.C_drew ?_))); (case side4 => exact (Kd.S_reads' HO683.out).2.1); rintro e w' ⟨rfl, ⟨nd, rfl⟩⟩; refine ⟨_, rfl, ?_⟩))
    go_meet
    case rel => exact ⟨_, (true), fs, H', ⟨by first | omega | exact Nat.le_refl _⟩, ⟨ru HO677.out⟩, ⟨by (with_reducible repeat (first | apply Kd.S_alloc | apply Kd.S_drewN | apply Kd.S_drew)); exact Kd.S_mono HO680.out (fun _ hk => trivial)⟩, ⟨bw HB.out⟩⟩
  case rest =>
   clear HC5
   try clear c1
   try clear c2
   try clear c2b0
   try clear c2b1
   try clear p2
   try clear c4
   try clear c7
   try clear c11
   try clear c12
   try clear c12b0
   try clear c12b1
   try clear c12b2
   obtain ⟨kq, x40_4, rfl, HA, HJ4, HO_4, HO_6, HB⟩ := hcut
   cases kq with
   | zero => exact absurd HA.out (by simp [laws_FnClaims.j0])
   | succ kj4 =>
    have H := HA.out
    clear HA
    simp only [laws_FnClaims.j0] at H
    by_cases c22 : x40_4 = true
    ·subst c22
     rw [if_pos rfl] at H
     replace H := Option.bind_eq_some_iff.mp H
     obtain ⟨t685, A230, H⟩ := H
     try dsimp only at H
     have A23 := Aside0.mk A230
     clear A230
     replace H := Option.bind_eq_some_iff.mp H
     obtain ⟨t688, A240, H⟩ := H
     try dsimp only at H
     have A24 := Aside0.mk A240
     clear A240
     obtain rfl := Option.some.inj H
     go_wp2_with (first | ((with_reducible refine gate_callee (f := 45) rfl ?_); refine goesL_ (some 45) rfl rfl Try.func45 (by kernel_rfl) rfl #[.int .i64 t673, .slice Ao7 t674.length co7, .int .i64 t675] rfl (by (try simp only [List.map_toArray, List.map_cons, List.map_nil]); first | done | rfl | (simp only [List.length_drop, List.length_take]; rfl)) ?_; (with_reducible refine (spec_ClaimsAfter.calls kj4 t673 _ _ t674 t675 t685 _ ?side1 ?side2 A23.out).mono ?_); (case side1 => repeat (first | exact (Kd.R_reads' HO_4.out).2.2 | (with_reducible refine Kd.C_alloc ?_ _) | (with_reducible refine Kd.C_drewN ?_ _) | (with_reducible refine Kd.C_drew ?_))); (case side2 => exact (Kd.R_reads' HO_4.out).2.1); rintro e w25 ⟨v686, rfl, ho0, hb⟩; refine ⟨_, rfl, ?_⟩; have n0_ := Aside0.mk (Kd.R_below (ru HO_4.out) hb); have n1_ := Aside0.mk (Kd.S_elder' (by (with_reducible repeat (first | apply Kd.S_alloc | apply Kd.S_drewN | apply Kd.S_drew)); exact HO_6.out) (Kd.S_base ho0) hb); have n2_ := Aside0.mk (Kd.S_lower (Kd.S_new' ho0 (Kd.S_lt (by (with_reducible repeat (first | apply Kd.S_alloc | apply Kd.S_drewN | apply Kd.S_drew)); exact HO_6.out))) (below_size (bw HB.out))); have n3_ := Aside0.mk (below_step (bw HB.out) hb); clear HO_4; clear HO_6; clear HB; have HO_4 := n0_; have HO_6 := n1_; have HO687 := n2_; have HB := n3_; clear n0_ n1_ n2_ n3_; (try clear hb); (try clear hb2); (try clear hk); (try clear hi); (try clear ho0); obtain ⟨Ao26, co26, eo26⟩ := Kd.S_slice HO_6.out; subst eo26; obtain ⟨Ao27, co27, eo27⟩ := Kd.S_slice HO687.out; subst eo27) | ((with_reducible refine gate_callee (f := 44) rfl ?_); refine goesL_ (some 46) rfl rfl Try.func44 (by kernel_rfl) rfl #[.slice Ao26 t678.length co26, .slice Ao27 t685.length co27] rfl (by (try simp only [List.map_toArray, List.map_cons, List.map_nil]); first | done | rfl | (simp only [List.length_drop, List.length_take]; rfl)) ?_; (with_reducible refine (laws_wnPairs.calls kj4 _ _ t678 _ _ t685 t688 _ ?side1 ?side2 ?side3 ?side4 A24.out).mono ?_); (case side1 => repeat (first | exact (Kd.S_reads' HO_6.out).2.2 | (with_reducible refine Kd.C_alloc ?_ _) | (with_reducible refine Kd.C_drewN ?_ _) | (with_reducible refine Kd.C_drew ?_))); (case side2 => exact (Kd.S_reads' HO_6.out).2.1); (case side3 => repeat (first | exact (Kd.S_reads' HO687.out).2.2 | (with_reducible refine Kd.C_alloc ?_ _) | (with_reducible refine Kd.C_drewN ?_ _) | (with_reducible refine Kd.C_drew ?_))); (case side4 => exact (Kd.S_reads' HO687.out).2.1); rintro e w' ⟨rfl, ⟨nd, rfl⟩⟩; refine ⟨_, rfl, ?_⟩))
     go_ret
     exact ⟨fe, bw HB.out⟩
    ·replace c22 := Bool.eq_false_iff.mpr c22
     subst c22
     rw [if_neg (show ¬ (false = true) by decide)] at H
     replace H := Option.bind_eq_some_iff.mp H
     obtain ⟨t689, A280, H⟩ := H
     try dsimp only at H
     have A28 := Aside0.mk A280
     clear A280
     replace H := Option.bind_eq_some_iff.mp H
     obtain ⟨t692, A290, H⟩ := H
     try dsimp only at H
     have A29 := Aside0.mk A290
     clear A290
     have H' := Aside0.mk H
     clear H
     go_wp2_with (first | ((with_reducible refine gate_callee (f := 40) rfl ?_); refine goesL_ (some 49) rfl rfl Try.func40 (by kernel_rfl) rfl #[.int .i64 t673, .slice Ao7 t674.length co7] rfl (by (try simp only [List.map_toArray, List.map_cons, List.map_nil]); first | done | rfl | (simp only [List.length_drop, List.length_take]; rfl)) ?_; (with_reducible refine (impl_CostsOf.calls kj4 t673 _ _ t674 t689 _ ?side1 ?side2 A28.out).mono ?_); (case side1 => repeat (first | exact (Kd.R_reads' HO_4.out).2.2 | (with_reducible refine Kd.C_alloc ?_ _) | (with_reducible refine Kd.C_drewN ?_ _) | (with_reducible refine Kd.C_drew ?_))); (case side2 => exact (Kd.R_reads' HO_4.out).2.1); rintro e w30 ⟨v690, rfl, ho0, hb⟩; refine ⟨_, rfl, ?_⟩; have n0_ := Aside0.mk (Kd.R_below (ru HO_4.out) hb); have n1_ := Aside0.mk (Kd.S_elder' (by (with_reducible repeat (first | apply Kd.S_alloc | apply Kd.S_drewN | apply Kd.S_drew)); exact HO_6.out) (Kd.R_base ho0) hb); have n2_ := Aside0.mk (Kd.R_lower ho0 (below_size (bw HB.out))); have n3_ := Aside0.mk (below_step (bw HB.out) hb); clear HO_4; clear HO_6; clear HB; have HO_4 := n0_; have HO_6 := n1_; have HO691 := n2_; have HB := n3_; clear n0_ n1_ n2_ n3_; (try clear hb); (try clear hb2); (try clear hk); (try clear hi); (try clear ho0)) | ((with_reducible refine gate_callee (f := 23) rfl ?_); refine goesL_ (some 52) rfl rfl Try.func23 (by kernel_rfl) rfl #[.int .i64 t673, .slice Ao7 t674.length co7] rfl (by (try simp only [List.map_toArray, List.map_cons, List.map_nil]); first | done | rfl | (simp only [List.length_drop, List.length_take]; rfl)) ?_; (with_reducible refine (impl_TreeOf.calls kj4 t673 _ _ t674 t692 _ ?side1 ?side2 A29.out).mono ?_); (case side1 => repeat (first | exact (Kd.R_reads' HO_4.out).2.2 | (with_reducible refine Kd.C_alloc ?_ _) | (with_reducible refine Kd.C_drewN ?_ _) | (with_reducible refine Kd.C_drew ?_))); (case side2 => exact (Kd.R_reads' HO_4.out).2.1); rintro e w31 ⟨v693, rfl, ho0, hb⟩; refine ⟨_, rfl, ?_⟩; have n0_ := Aside0.mk (Kd.R_below (ru HO_4.out) hb); have n1_ := Aside0.mk (Kd.S_elder' (by (with_reducible repeat (first | apply Kd.S_alloc | apply Kd.S_drewN | apply Kd.S_drew)); exact HO_6.out) (Kd.R_base ho0) hb); have n2_ := Aside0.mk (Kd.R_elder' (ru HO691.out) (Kd.R_base ho0) hb); have n3_ := Aside0.mk (Kd.R_lower (Kd.R_new' ho0 (Kd.R_lt (ru HO691.out))) (below_size (bw HB.out))); have n4_ := Aside0.mk (below_step (bw HB.out) hb); clear HO_4; clear HO_6; clear HO691; clear HB; have HO_4 := n0_; have HO_6 := n1_; have HO691 := n2_; have HO694 := n3_; have HB := n4_; clear n0_ n1_ n2_ n3_ n4_; (try clear hb); (try clear hb2); (try clear hk); (try clear hi); (try clear ho0); obtain ⟨Ao32, co32, eo32⟩ := Kd.S_slice HO_6.out; subst eo32))
     go_loopg [55] kj4 (fun kq v55 w' => ∃ (x55_2 : Int), v55 = .int .i64 x55_2 ∧ Aside0 (laws_FnClaims.l0 kq t673 t674 t678 t689 t692 t678 (t678.length : Int) x55_2 = some r) ∧ Aside0 (kq ≤ kj4) ∧ Aside0 (Kd.R k44 44 w' w.heap.size (fun _ => True) (.slice Ao7 t674.length co7) t674) ∧ Aside0 (Kd.S (Kd.slice 3 (Kd.int .i64)) 24 w' w.heap.size (fun k_ => some k_ ≠ (v690 : Value).ownBlock ∧ some k_ ≠ (v693 : Value).ownBlock) (.slice Ao32 t678.length co32) t678) ∧ Aside0 (Kd.R (Kd.int .i64) 3 w' w.heap.size (fun k_ => some k_ ≠ (v693 : Value).ownBlock) v690 t689) ∧ Aside0 (Kd.R (Kd.int .i64) 3 w' w.heap.size (fun k_ => some k_ ≠ (v690 : Value).ownBlock) v693 t692) ∧ Aside0 (Kd.S (Kd.slice 3 (Kd.int .i64)) 24 w' w.heap.size (fun k_ => some k_ ≠ (v690 : Value).ownBlock ∧ some k_ ≠ (v693 : Value).ownBlock) (.slice Ao32 t678.length co32) t678) ∧ Aside0 (Below w.heap.size w w'))
     case atStart => exact ⟨(0), fs, H', ⟨Nat.le_refl _⟩, ⟨ru HO_4.out⟩, ⟨by (with_reducible repeat (first | apply Kd.S_alloc | apply Kd.S_drewN | apply Kd.S_drew)); exact Kd.S_mono HO_6.out (fun _ hk => ⟨hk.1.2, hk.2⟩)⟩, ⟨by (with_reducible repeat (first | apply Kd.R_alloc | apply Kd.R_drewN | apply Kd.R_drew)); exact Kd.R_mono HO691.out (fun _ hk => hk.2)⟩, ⟨by (with_reducible repeat (first | apply Kd.R_alloc | apply Kd.R_drewN | apply Kd.R_drew)); exact Kd.R_mono HO694.out (fun _ hk => hk.2)⟩, ⟨by (with_reducible repeat (first | apply Kd.S_alloc | apply Kd.S_drewN | apply Kd.S_drew)); exact Kd.S_mono HO_6.out (fun _ hk => ⟨hk.1.2, hk.2⟩)⟩, ⟨bw HB.out⟩⟩
     case round =>
      clear H'
      try clear c1
      try clear c2
      try clear c2b0
      try clear c2b1
      try clear p2
      try clear c4
      try clear c7
      try clear c11
      try clear c12
      try clear c12b0
      try clear c12b1
      try clear c12b2
      try clear c22
      try clear c23
      try clear p2
      obtain ⟨x55_2, rfl, HA, HK2, HO_4, HO_6, HO_7, HO_8, HO_53, HB⟩ := hrel
      cases gk with
      | zero => exact absurd HA.out (by simp [laws_FnClaims.l0])
      | succ k2 =>
       have H := HA.out
       clear HA
       simp only [laws_FnClaims.l0] at H
       by_cases c33 : x55_2 < (t678.length : Int)
       ·rw [if_pos c33] at H
        have c33b0 : decide (x55_2 < (t678.length : Int)) = true := decide_eq_true c33
        clear c33
        by_cases c34 : 0 ≤ x55_2
        ·rw [if_pos c34] at H
         have c34b0 : decide (0 ≤ x55_2) = true := decide_eq_true c34
         clear c34
         by_cases c35 : x55_2 < (t678.length : Int)
         ·rw [if_pos c35] at H
          have c35b0 : decide (x55_2 < (t678.length : Int)) = true := decide_eq_true c35
          clear c35
          by_cases c36 : 0 < ((rd_L5 t678 x55_2).length : Int)
          ·rw [if_pos c36] at H
           have c36b0 : decide (0 < ((rd_L5 t678 x55_2).length : Int)) = true := decide_eq_true c36
           have c36b1 : decide (0 < (rd_L5 t678 x55_2).length) = true := decide_eq_true (by omega)
           clear c36
           replace H := Option.bind_eq_some_iff.mp H
           obtain ⟨t701, A370, H⟩ := H
           try dsimp only at H
           have A37 := Aside0.mk A370
           clear A370
           by_cases c38 : (rd (rd_L5 t678 x55_2) 0) = t701
           ·rw [if_pos c38] at H
            have c38b0 : ((rd (rd_L5 t678 x55_2) 0) == t701) = true := beq_iff_eq.mpr c38
            have c38b1 : ((rd (rd_L5 t678 x55_2) 0) != t701) = false := bne_eq_false_iff_eq.mpr c38
            clear c38
            by_cases c39 : 1 < ((rd_L5 t678 x55_2).length : Int)
            ·rw [if_pos c39] at H
             have c39b0 : decide (1 < ((rd_L5 t678 x55_2).length : Int)) = true := decide_eq_true c39
             have c39b1 : decide (1 < (rd_L5 t678 x55_2).length) = true := decide_eq_true (by omega)
             clear c39
             by_cases c40 : x55_2 < (t689.length : Int)
             ·rw [if_pos c40] at H
              have c40b0 : decide (x55_2 < (t689.length : Int)) = true := decide_eq_true c40
              clear c40
              by_cases c41 : (rd (rd_L5 t678 x55_2) 1) = (rd t689 x55_2)
              ·rw [if_pos c41] at H
               have c41b0 : ((rd (rd_L5 t678 x55_2) 1) == (rd t689 x55_2)) = true := beq_iff_eq.mpr c41
               have c41b1 : ((rd (rd_L5 t678 x55_2) 1) != (rd t689 x55_2)) = false := bne_eq_false_iff_eq.mpr c41
               clear c41
               by_cases c42 : 3 < ((rd_L5 t678 x55_2).length : Int)
               ·rw [if_pos c42] at H
                have c42b0 : decide (3 < ((rd_L5 t678 x55_2).length : Int)) = true := decide_eq_true c42
                have c42b1 : decide (3 < (rd_L5 t678 x55_2).length) = true := decide_eq_true (by omega)
                clear c42
                by_cases c43 : (rd (rd_L5 t678 x55_2) 3) ≥ 0
                ·rw [if_pos c43] at H
                 have c43b0 : decide (0 ≤ (rd (rd_L5 t678 x55_2) 3)) = true := decide_eq_true c43
                 clear c43
                 replace H := Option.bind_eq_some_iff.mp H
                 obtain ⟨t706, A440, H⟩ := H
                 try dsimp only at H
                 have A44 := Aside0.mk A440
                 clear A440
                 by_cases c45 : t706 = true
                 ·subst c45
                  rw [if_pos rfl] at H
                  by_cases c46 : ((decide ((rd (rd_L5 t678 x55_2) 3) < 0)) != ((rd t689 x55_2) == 0)) = true
                  ·rw [if_pos c46] at H
                   have c46b0 : ((decide ((rd (rd_L5 t678 x55_2) 3) < 0)) != ((rd t689 x55_2) == 0)) = true := c46
                   (try (have c46b1 : decide ((decide ((rd (rd_L5 t678 x55_2) 3) < 0)) = ((rd t689 x55_2) == 0)) = false := by simpa using c46))
                   (try (have c46b2 : ((decide ((rd (rd_L5 t678 x55_2) 3) < 0)) == ((rd t689 x55_2) == 0)) = false := by simpa using c46))
                   (try (have c46b3 : ¬ ((decide ((rd (rd_L5 t678 x55_2) 3) < 0)) = ((rd t689 x55_2) == 0)) := by simpa using c46))
                   clear c46
                   obtain rfl := Option.some.inj H
                   have p699 : 0 ≤ (x55_2 : Int) := od
                   have q699 : x55_2 < (t678.length : Int) := od
                   obtain ⟨ad699, A699_0, c699_0, e699, hx699_0, hl699_0, hi699_0⟩ := at_L5 (Kd.S_reads' HO_53.out).2.2 x55_2 p699 q699
                   cases e699
                   obtain ⟨ce699, hce699, hMe699, hcc699⟩ := Kd.S_get HO_53.out [] x55_2 p699 (by first | exact q699 | exact od | (have e_ := (Kd.S_reads' HO_53.out).1; omega))
                   obtain ⟨ve699_0, rfl, ge699_0⟩ := hMe699
                   have hv699_0 := hcc699 0 _ rfl
                   rw [Nat.add_zero, show ((Kd.slice 3 (Kd.int .i64))).sz = 1 from rfl, Nat.mul_one] at hv699_0
                   replace hv699_0 := Option.some.inj (hv699_0.symm.trans hx699_0)
                   rw [hv699_0] at ge699_0
                   have HL699_0 := Aside0.mk (show Kd.R (Kd.int .i64) 3 _ _ _ _ (rd_L5 t678 x55_2) from ge699_0)
                   clear hv699_0 ge699_0
                   clear hcc699 hce699
                   have HR699_0 := Aside0.mk hi699_0
                   have HC699_0 := Aside0.mk hl699_0
                   clear hi699_0 hl699_0
                   replace p699 := eq_true p699
                   replace q699 := eq_true q699
                   try go_wp2
                   have n0_ := Aside0.mk (Kd.R_drew HO_4.out)
                   have n1_ := Aside0.mk (Kd.S_drew HO_6.out)
                   have n2_ := Aside0.mk (Kd.R_drew HO_7.out)
                   have n3_ := Aside0.mk (Kd.R_drew HO_8.out)
                   have n4_ := Aside0.mk (Kd.S_drew HO_53.out)
                   have n5_ := Aside0.mk (Kd.R_drew HL699_0.out)
                   have n6_ := Aside0.mk (Kd.C_drew HR699_0.out)
                   have n7_ := Aside0.mk (below_drew1 HB.out)
                   clear HO_4
                   clear HO_6
                   clear HO_7
                   clear HO_8
                   clear HO_53
                   clear HL699_0
                   clear HR699_0
                   clear HB
                   have HO_4 := n0_
                   have HO_6 := n1_
                   have HO_7 := n2_
                   have HO_8 := n3_
                   have HO_53 := n4_
                   have HL699_0 := n5_
                   have HR699_0 := n6_
                   have HB := n7_
                   clear n0_ n1_ n2_ n3_ n4_ n5_ n6_ n7_
                   have p700 : 0 ≤ (0 : Int) := (by omega)
                   have q700 : 0 < ((rd_L5 t678 x55_2).length : Int) := od
                   obtain ⟨ad700, e700, hx700_0⟩ := Kd.at_int (by repeat (first | (with_reducible exact HR699_0.out) | (with_reducible refine Kd.C_alloc ?_ _) | (with_reducible refine Kd.C_drewN ?_ _) | (with_reducible refine Kd.C_drew ?_) | exact HR699_0.out)) 0 p700 q700
                   cases e700
                   have qi700 : (0 < (rd_L5 t678 x55_2).length) = True := eq_true (by omega)
                   (try rw [show ((0 : Int)).toNat = 0 from rfl] at hx700_0)
                   (try rw [Addr.add_zero'] at hx700_0)
                   replace p700 := eq_true p700
                   replace q700 := eq_true q700
                   have p703 : 0 ≤ (x55_2 : Int) := od
                   have q703 : x55_2 < (t689.length : Int) := od
                   obtain ⟨Aoz1, coz1, eoz1⟩ := Kd.R_slice HO_7.out
                   subst eoz1
                   obtain ⟨ad703, e703, hx703_0⟩ := Kd.at_int (Kd.R_reads' HO_7.out).2.2 x55_2 p703 q703
                   cases e703
                   replace p703 := eq_true p703
                   replace q703 := eq_true q703
                   have p708 : 0 ≤ (x55_2 : Int) := od
                   have q708 : x55_2 < (t689.length : Int) := od
                   obtain ⟨ad708, e708, hx708_0⟩ := Kd.at_int (Kd.R_reads' HO_7.out).2.2 x55_2 p708 q708
                   obtain rfl : ad703 = ad708 := (by injection e708)
                   replace p708 := eq_true p708
                   replace q708 := eq_true q708
                   have p702 : 0 ≤ (1 : Int) := (by omega)
                   have q702 : 1 < ((rd_L5 t678 x55_2).length : Int) := od
                   obtain ⟨ad702, e702, hx702_0⟩ := Kd.at_int (by repeat (first | (with_reducible exact HR699_0.out) | (with_reducible refine Kd.C_alloc ?_ _) | (with_reducible refine Kd.C_drewN ?_ _) | (with_reducible refine Kd.C_drew ?_) | exact HR699_0.out)) 1 p702 q702
                   obtain rfl : ad700 = ad702 := (by injection e702)
                   (try simp only [show (1 : Int).toNat = 1 from rfl, Nat.reduceMul, Nat.reduceEqDiff, Go.Addr.add, ↓reduceIte] at hx702_0)
                   have qi702 : (1 < (rd_L5 t678 x55_2).length) = True := eq_true (by omega)
                   replace p702 := eq_true p702
                   replace q702 := eq_true q702
                   have p704 : 0 ≤ (3 : Int) := (by omega)
                   have q704 : 3 < ((rd_L5 t678 x55_2).length : Int) := od
                   obtain ⟨ad704, e704, hx704_0⟩ := Kd.at_int (by repeat (first | (with_reducible exact HR699_0.out) | (with_reducible refine Kd.C_alloc ?_ _) | (with_reducible refine Kd.C_drewN ?_ _) | (with_reducible refine Kd.C_drew ?_) | exact HR699_0.out)) 3 p704 q704
                   obtain rfl : ad700 = ad704 := (by injection e704)
                   (try simp only [show (3 : Int).toNat = 3 from rfl, Nat.reduceMul, Nat.reduceEqDiff, Go.Addr.add, ↓reduceIte] at hx704_0)
                   have qi704 : (3 < (rd_L5 t678 x55_2).length) = True := eq_true (by omega)
                   replace p704 := eq_true p704
                   replace q704 := eq_true q704
                   have p705 : 0 ≤ (3 : Int) := (by omega)
                   have q705 : 3 < ((rd_L5 t678 x55_2).length : Int) := od
                   obtain ⟨ad705, e705, hx705_0⟩ := Kd.at_int (by repeat (first | (with_reducible exact HR699_0.out) | (with_reducible refine Kd.C_alloc ?_ _) | (with_reducible refine Kd.C_drewN ?_ _) | (with_reducible refine Kd.C_drew ?_) | exact HR699_0.out)) 3 p705 q705
                   obtain rfl : ad700 = ad705 := (by injection e705)
                   (try simp only [show (3 : Int).toNat = 3 from rfl, Nat.reduceMul, Nat.reduceEqDiff, Go.Addr.add, ↓reduceIte] at hx705_0)
                   have qi705 : (3 < (rd_L5 t678 x55_2).length) = True := eq_true (by omega)
                   replace p705 := eq_true p705
                   replace q705 := eq_true q705
                   have p707 : 0 ≤ (3 : Int) := (by omega)
                   have q707 : 3 < ((rd_L5 t678 x55_2).length : Int) := od
                   obtain ⟨ad707, e707, hx707_0⟩ := Kd.at_int (by repeat (first | (with_reducible exact HR699_0.out) | (with_reducible refine Kd.C_alloc ?_ _) | (with_reducible refine Kd.C_drewN ?_ _) | (with_reducible refine Kd.C_drew ?_) | exact HR699_0.out)) 3 p707 q707
                   obtain rfl : ad700 = ad707 := (by injection e707)
                   (try simp only [show (3 : Int).toNat = 3 from rfl, Nat.reduceMul, Nat.reduceEqDiff, Go.Addr.add, ↓reduceIte] at hx707_0)
                   have qi707 : (3 < (rd_L5 t678 x55_2).length) = True := eq_true (by omega)
                   replace p707 := eq_true p707
                   replace q707 := eq_true q707
                   refine start_ (n := 44) (S := fun w' => w'.cell? ad700 = some (.int .i64 (rd (rd_L5 t678 x55_2) 0)) ∧ w'.cell? ⟨ad700.block, ad700.off + 1, none⟩ = some (.int .i64 (rd (rd_L5 t678 x55_2) 1)) ∧ w'.cell? (ad703.add (x55_2).toNat) = some (.int .i64 (rd t689 x55_2)) ∧ w'.cell? ⟨ad700.block, ad700.off + 3, none⟩ = some (.int .i64 (rd (rd_L5 t678 x55_2) 3)) ∧ w'.cell? ⟨ad700.block, ad700.off + 3, none⟩ = some (.int .i64 (rd (rd_L5 t678 x55_2) 3)) ∧ w'.cell? ⟨ad700.block, ad700.off + 3, none⟩ = some (.int .i64 (rd (rd_L5 t678 x55_2) 3)) ∧ w'.cell? (ad703.add (x55_2).toNat) = some (.int .i64 (rd t689 x55_2))) (ds := []) (bl 44 0) (by kernel_rfl) rfl (by kernel_rfl) ⟨hx700_0, hx702_0, hx703_0, hx704_0, hx705_0, hx707_0, hx708_0⟩ (fun hHeld => ?_); refine with_tabW laws_FnClaims.tab12 laws_FnClaims.bits12 (fun HT_ HW_ => ?_)
                   generalize wr.drew = w47 at HO_4 HO_6 HO_7 HO_8 HO_53 HL699_0 HR699_0 HB hx700_0 hx703_0 hx708_0 hHeld ⊢
                   refine pA 0 (some 60) (bl 44 1) HT_ (h := ?_)
                   refine pA 1 (some 61) (bl 44 3) HT_ (h := ?_)
                   refine pA 3 (some 63) (bl 44 11) HT_ (h := ?_)
                   refine pA 4 (some 64) (bl 44 27) HT_ (h := ?_)
                   refine pA 5 (some 65) (bl 44 59) HT_ (h := ?_)
                   refine tA 2 (some 62) (bl 44 63) HT_ HW_ hHeld (h := ?_)
                   refine one_ (i := 6) (N := some 66) (bl 44 127) rfl rfl (one_of HT_.out (by kernel_rfl)) (by decide) (fun K hK => ?_)
                   refine goes_ Try.func41 (by kernel_rfl) rfl #[.int .i64 t673, .slice Ao7 t674.length co7, .int .i64 x55_2] (by rfl) rfl rfl (by (try simp only [List.map_toArray, List.map_cons, List.map_nil]); first | done | rfl | (simp only [List.length_drop, List.length_take]; rfl)) ?_
                   with_reducible refine (impl_RootOf.calls k2 t673 _ _ t674 x55_2 t701 _ ?side1 ?side2 A37.out).mono ?_
                   (case side1 => repeat (first | exact (Kd.R_reads' HO_4.out).2.2 | (with_reducible refine Kd.C_alloc ?_ _) | (with_reducible refine Kd.C_drewN ?_ _) | (with_reducible refine Kd.C_drew ?_)))
                   (case side2 => exact (Kd.R_reads' HO_4.out).2.1)
                   rintro e w48 ⟨rfl, hb⟩
                   have HS0_ := (hb.cell (World.block_lt_of_cell? _ _ (hHeld.1))).trans (hHeld.1)
                   have HS1_ := (hb.cell (World.block_lt_of_cell? _ _ (hHeld.2.1))).trans (hHeld.2.1)
                   have HS2_ := (hb.cell (World.block_lt_of_cell? _ _ (hHeld.2.2.1))).trans (hHeld.2.2.1)
                   have HS3_ := (hb.cell (World.block_lt_of_cell? _ _ (hHeld.2.2.2.1))).trans (hHeld.2.2.2.1)
                   have HS4_ := (hb.cell (World.block_lt_of_cell? _ _ (hHeld.2.2.2.2.1))).trans (hHeld.2.2.2.2.1)
                   have HS5_ := (hb.cell (World.block_lt_of_cell? _ _ (hHeld.2.2.2.2.2.1))).trans (hHeld.2.2.2.2.2.1)
                   have HS6_ := (hb.cell (World.block_lt_of_cell? _ _ (hHeld.2.2.2.2.2.2))).trans (hHeld.2.2.2.2.2.2)
                   refine ⟨_, rfl, ?_⟩
                   have n0_ := Aside0.mk (Kd.R_below (ru HO_4.out) hb)
                   have n1_ := Aside0.mk (Kd.S_below (by (with_reducible repeat (first | apply Kd.S_alloc | apply Kd.S_drewN | apply Kd.S_drew)); exact HO_6.out) hb)
                   have n2_ := Aside0.mk (Kd.R_below (ru HO_7.out) hb)
                   have n3_ := Aside0.mk (Kd.R_below (ru HO_8.out) hb)
                   have n4_ := Aside0.mk (Kd.S_below (by (with_reducible repeat (first | apply Kd.S_alloc | apply Kd.S_drewN | apply Kd.S_drew)); exact HO_53.out) hb)
                   have n5_ := Aside0.mk (Kd.R_below (ru HL699_0.out) hb)
                   have n6_ := Aside0.mk (Kd.C_below (by repeat (first | (with_reducible exact HR699_0.out) | (with_reducible refine Kd.C_alloc ?_ _) | (with_reducible refine Kd.C_drewN ?_ _) | (with_reducible refine Kd.C_drew ?_) | exact HR699_0.out)) hb)
                   have n7_ := Aside0.mk (below_step (bw HB.out) hb)
                   clear HO_4
                   clear HO_6
                   clear HO_7
                   clear HO_8
                   clear HO_53
                   clear HL699_0
                   clear HR699_0
                   clear HB
                   have HO_4 := n0_
                   have HO_6 := n1_
                   have HO_7 := n2_
                   have HO_8 := n3_
                   have HO_53 := n4_
                   have HL699_0 := n5_
                   have HR699_0 := n6_
                   have HB := n7_
                   clear n0_ n1_ n2_ n3_ n4_ n5_ n6_ n7_
                   (try clear hb)
                   (try clear hb2)
                   (try clear hk)
                   (try clear hi)
                   have p702 : 0 ≤ (1 : Int) := (by omega)
                   have q702 : 1 < ((rd_L5 t678 x55_2).length : Int) := od
                   obtain ⟨ad702, e702, hx702_0⟩ := Kd.at_int (by repeat (first | (with_reducible exact HR699_0.out) | (with_reducible refine Kd.C_alloc ?_ _) | (with_reducible refine Kd.C_drewN ?_ _) | (with_reducible refine Kd.C_drew ?_) | exact HR699_0.out)) 1 p702 q702
                   obtain rfl : ad700 = ad702 := (by injection e702)
                   (try simp only [show (1 : Int).toNat = 1 from rfl, Nat.reduceMul, Nat.reduceEqDiff, Go.Addr.add, ↓reduceIte] at hx702_0)
                   have qi702 : (1 < (rd_L5 t678 x55_2).length) = True := eq_true (by omega)
                   (try rw [show ((1 : Int)).toNat = 1 from rfl] at hx702_0)
                   replace p702 := eq_true p702
                   replace q702 := eq_true q702
                   obtain ⟨Ao49, co49, eo49⟩ := Kd.R_slice HO_7.out
                   (first | subst eo49 | (injection eo49 with f1_ f2_ f3_; have f4_ := f1_.symm; have f5_ := f3_.symm; clear f1_ f2_ f3_; subst f4_; subst f5_))
                   have p704 : 0 ≤ (3 : Int) := (by omega)
                   have q704 : 3 < ((rd_L5 t678 x55_2).length : Int) := od
                   obtain ⟨ad704, e704, hx704_0⟩ := Kd.at_int (by repeat (first | (with_reducible exact HR699_0.out) | (with_reducible refine Kd.C_alloc ?_ _) | (with_reducible refine Kd.C_drewN ?_ _) | (with_reducible refine Kd.C_drew ?_) | exact HR699_0.out)) 3 p704 q704
                   obtain rfl : ad700 = ad704 := (by injection e704)
                   (try simp only [show (3 : Int).toNat = 3 from rfl, Nat.reduceMul, Nat.reduceEqDiff, Go.Addr.add, ↓reduceIte] at hx704_0)
                   have qi704 : (3 < (rd_L5 t678 x55_2).length) = True := eq_true (by omega)
                   (try rw [show ((3 : Int)).toNat = 3 from rfl] at hx704_0)
                   replace p704 := eq_true p704
                   replace q704 := eq_true q704
                   have p705 : 0 ≤ (3 : Int) := (by omega)
                   have q705 : 3 < ((rd_L5 t678 x55_2).length : Int) := od
                   obtain ⟨ad705, e705, hx705_0⟩ := Kd.at_int (by repeat (first | (with_reducible exact HR699_0.out) | (with_reducible refine Kd.C_alloc ?_ _) | (with_reducible refine Kd.C_drewN ?_ _) | (with_reducible refine Kd.C_drew ?_) | exact HR699_0.out)) 3 p705 q705
                   obtain rfl : ad700 = ad705 := (by injection e705)
                   (try simp only [show (3 : Int).toNat = 3 from rfl, Nat.reduceMul, Nat.reduceEqDiff, Go.Addr.add, ↓reduceIte] at hx705_0)
                   have qi705 : (3 < (rd_L5 t678 x55_2).length) = True := eq_true (by omega)
                   (try rw [show ((3 : Int)).toNat = 3 from rfl] at hx705_0)
                   replace p705 := eq_true p705
                   replace q705 := eq_true q705
                   obtain ⟨Ao50, co50, eo50⟩ := Kd.R_slice HO_8.out
                   (first | subst eo50 | (injection eo50 with f1_ f2_ f3_; have f4_ := f1_.symm; have f5_ := f3_.symm; clear f1_ f2_ f3_; subst f4_; subst f5_))
                   refine hK.out _ _ ⟨HS0_, HS1_, HS2_, HS3_, HS4_, HS5_, HS6_⟩ (fun hHeld => ?_)
                   clear hK K
                   refine norm_ (a' := ?_) ?_ ?_
                   rotate_left
                   ·show Act.put _ (some 66) _ = _
                    simp only [Act.put, List.setIfInBounds_toArray, List.set_cons_zero, List.set_cons_succ, i64_w, i32_w]
                    rfl
                   refine pA 7 (some 67) (bl 44 255) HT_ (h := ?_)
                   refine pA 8 (some 68) (bl 44 511) HT_ (h := ?_)
                   refine pA 9 (some 69) (bl 44 1023) HT_ (h := ?_)
                   refine pA 10 (some 70) (bl 44 2047) HT_ (h := ?_)
                   refine pA 12 (some 72) (bl 44 6143) HT_ (h := ?_)
                   refine pA 13 (some 73) (bl 44 14335) HT_ (h := ?_)
                   refine pA 14 (some 74) (bl 44 30719) HT_ (h := ?_)
                   refine tA 11 (some 71) (bl 44 32767) HT_ HW_ hHeld (h := ?_)
                   refine tA 15 (some 75) (bl 44 65535) HT_ HW_ hHeld (h := ?_)
                   refine pA 16 (some 76) (bl 44 131071) HT_ (h := ?_)
                   refine pA 17 (some 77) (bl 44 262143) HT_ (h := ?_)
                   refine pA 18 (some 78) (bl 44 524287) HT_ (h := ?_)
                   refine pA 19 (some 79) (bl 44 1048575) HT_ (h := ?_)
                   refine pA 20 (some 80) (bl 44 2097151) HT_ (h := ?_)
                   refine tA 21 (some 81) (bl 44 4194303) HT_ HW_ hHeld (h := ?_)
                   refine pA 22 (some 82) (bl 44 8388607) HT_ (h := ?_)
                   refine pA 23 (some 83) (bl 44 16777215) HT_ (h := ?_)
                   refine pA 24 (some 84) (bl 44 33554431) HT_ (h := ?_)
                   refine pA 25 (some 85) (bl 44 67108863) HT_ (h := ?_)
                   refine pA 26 (some 86) (bl 44 134217727) HT_ (h := ?_)
                   refine tA 27 (some 87) (bl 44 268435455) HT_ HW_ hHeld (h := ?_)
                   refine one_ (i := 28) (N := some 88) (bl 44 536870911) rfl rfl (one_of HT_.out (by kernel_rfl)) (by decide) (fun K hK => ?_)
                   refine goes_ Try.func46 (by kernel_rfl) rfl #[.slice Ao50 t692.length co50, .int .i64 (rd (rd_L5 t678 x55_2) 3)] (by rfl) rfl rfl (by (try simp only [List.map_toArray, List.map_cons, List.map_nil]); first | done | rfl | (simp only [List.length_drop, List.length_take]; rfl)) ?_
                   with_reducible refine (laws_wnHas.calls k2 _ _ t692 (rd (rd_L5 t678 x55_2) 3) true _ ?side1 ?side2 A44.out).mono ?_
                   (case side1 => repeat (first | exact (Kd.R_reads' HO_8.out).2.2 | (with_reducible refine Kd.C_alloc ?_ _) | (with_reducible refine Kd.C_drewN ?_ _) | (with_reducible refine Kd.C_drew ?_)))
                   (case side2 => exact (Kd.R_reads' HO_8.out).2.1)
                   rintro e w' ⟨rfl, ⟨nd, rfl⟩⟩
                   refine ⟨_, rfl, ?_⟩
                   have p707 : 0 ≤ (3 : Int) := (by omega)
                   have q707 : 3 < ((rd_L5 t678 x55_2).length : Int) := od
                   obtain ⟨ad707, e707, hx707_0⟩ := Kd.at_int (by repeat (first | (with_reducible exact HR699_0.out) | (with_reducible refine Kd.C_alloc ?_ _) | (with_reducible refine Kd.C_drewN ?_ _) | (with_reducible refine Kd.C_drew ?_) | exact HR699_0.out)) 3 p707 q707
                   obtain rfl : ad700 = ad707 := (by injection e707)
                   (try simp only [show (3 : Int).toNat = 3 from rfl, Nat.reduceMul, Nat.reduceEqDiff, Go.Addr.add, ↓reduceIte] at hx707_0)
                   have qi707 : (3 < (rd_L5 t678 x55_2).length) = True := eq_true (by omega)
                   (try rw [show ((3 : Int)).toNat = 3 from rfl] at hx707_0)
                   replace p707 := eq_true p707
                   replace q707 := eq_true q707
                   refine hK.out _ _ ⟨hHeld.1, hHeld.2.1, hHeld.2.2.1, hHeld.2.2.2.1, hHeld.2.2.2.2.1, hHeld.2.2.2.2.2.1, hHeld.2.2.2.2.2.2⟩ (fun hHeld => ?_)
                   clear hK K
                   refine norm_ (a' := ?_) ?_ ?_
                   rotate_left
                   ·show Act.put _ (some 88) _ = _
                    simp only [Act.put, List.setIfInBounds_toArray, List.set_cons_zero, List.set_cons_succ, i64_w, i32_w]
                    rfl
                   refine pA 29 (some 89) (bl 44 1073741823) HT_ (h := ?_)
                   refine pA 30 (some 90) (bl 44 2147483647) HT_ (h := ?_)
                   refine pA 31 (some 91) (bl 44 4294967295) HT_ (h := ?_)
                   refine pA 32 (some 92) (bl 44 8589934591) HT_ (h := ?_)
                   refine pA 33 (some 93) (bl 44 17179869183) HT_ (h := ?_)
                   refine pA 34 (some 94) (bl 44 34359738367) HT_ (h := ?_)
                   refine pA 37 (some 97) (bl 44 171798691839) HT_ (h := ?_)
                   refine pA 38 (some 98) (bl 44 446676598783) HT_ (h := ?_)
                   refine pA 39 (some 99) (bl 44 996432412671) HT_ (h := ?_)
                   refine tA 35 (some 95) (bl 44 1030792151039) HT_ HW_ hHeld (h := ?_)
                   refine pA 36 (some 96) (bl 44 1099511627775) HT_ (h := ?_)
                   refine tA 40 (some 100) (bl 44 2199023255551) HT_ HW_ hHeld (h := ?_)
                   refine pA 41 (some 101) (bl 44 4398046511103) HT_ (h := ?_)
                   refine pA 42 (some 102) (bl 44 8796093022207) HT_ (h := ?_)
                   refine pA 43 (some 103) (bl 44 17592186044415) HT_ (h := ?_)
                   refine done_ (done_of HT_.out (by kernel_rfl)) ?_
                   try go_wp2
                   go_ret
                   exact ⟨fe, bw HB.out⟩
                  ·rw [if_neg c46] at H
                   have c46b0 : ((decide ((rd (rd_L5 t678 x55_2) 3) < 0)) != ((rd t689 x55_2) == 0)) = false := by simpa using c46
                   (try (have c46b1 : decide ((decide ((rd (rd_L5 t678 x55_2) 3) < 0)) = ((rd t689 x55_2) == 0)) = true := by simpa using c46))
                   (try (have c46b2 : ((decide ((rd (rd_L5 t678 x55_2) 3) < 0)) == ((rd t689 x55_2) == 0)) = true := by simpa using c46))
                   clear c46
                   have H' := Aside0.mk H
                   clear H
                   have p699 : 0 ≤ (x55_2 : Int) := od
                   have q699 : x55_2 < (t678.length : Int) := od
                   obtain ⟨ad699, A699_0, c699_0, e699, hx699_0, hl699_0, hi699_0⟩ := at_L5 (Kd.S_reads' HO_53.out).2.2 x55_2 p699 q699
                   cases e699
                   obtain ⟨ce699, hce699, hMe699, hcc699⟩ := Kd.S_get HO_53.out [] x55_2 p699 (by first | exact q699 | exact od | (have e_ := (Kd.S_reads' HO_53.out).1; omega))
                   obtain ⟨ve699_0, rfl, ge699_0⟩ := hMe699
                   have hv699_0 := hcc699 0 _ rfl
                   rw [Nat.add_zero, show ((Kd.slice 3 (Kd.int .i64))).sz = 1 from rfl, Nat.mul_one] at hv699_0
                   replace hv699_0 := Option.some.inj (hv699_0.symm.trans hx699_0)
                   rw [hv699_0] at ge699_0
                   have HL699_0 := Aside0.mk (show Kd.R (Kd.int .i64) 3 _ _ _ _ (rd_L5 t678 x55_2) from ge699_0)
                   clear hv699_0 ge699_0
                   clear hcc699 hce699
                   have HR699_0 := Aside0.mk hi699_0
                   have HC699_0 := Aside0.mk hl699_0
                   clear hi699_0 hl699_0
                   replace p699 := eq_true p699
                   replace q699 := eq_true q699
                   try go_wp2
                   have n0_ := Aside0.mk (Kd.R_drew HO_4.out)
                   have n1_ := Aside0.mk (Kd.S_drew HO_6.out)
                   have n2_ := Aside0.mk (Kd.R_drew HO_7.out)
                   have n3_ := Aside0.mk (Kd.R_drew HO_8.out)
                   have n4_ := Aside0.mk (Kd.S_drew HO_53.out)
                   have n5_ := Aside0.mk (Kd.R_drew HL699_0.out)
                   have n6_ := Aside0.mk (Kd.C_drew HR699_0.out)
                   have n7_ := Aside0.mk (below_drew1 HB.out)
                   clear HO_4
                   clear HO_6
                   clear HO_7
                   clear HO_8
                   clear HO_53
                   clear HL699_0
                   clear HR699_0
                   clear HB
                   have HO_4 := n0_
                   have HO_6 := n1_
                   have HO_7 := n2_
                   have HO_8 := n3_
                   have HO_53 := n4_
                   have HL699_0 := n5_
                   have HR699_0 := n6_
                   have HB := n7_
                   clear n0_ n1_ n2_ n3_ n4_ n5_ n6_ n7_
                   have p700 : 0 ≤ (0 : Int) := (by omega)
                   have q700 : 0 < ((rd_L5 t678 x55_2).length : Int) := od
                   obtain ⟨ad700, e700, hx700_0⟩ := Kd.at_int (by repeat (first | (with_reducible exact HR699_0.out) | (with_reducible refine Kd.C_alloc ?_ _) | (with_reducible refine Kd.C_drewN ?_ _) | (with_reducible refine Kd.C_drew ?_) | exact HR699_0.out)) 0 p700 q700
                   cases e700
                   have qi700 : (0 < (rd_L5 t678 x55_2).length) = True := eq_true (by omega)
                   (try rw [show ((0 : Int)).toNat = 0 from rfl] at hx700_0)
                   (try rw [Addr.add_zero'] at hx700_0)
                   replace p700 := eq_true p700
                   replace q700 := eq_true q700
                   have p703 : 0 ≤ (x55_2 : Int) := od
                   have q703 : x55_2 < (t689.length : Int) := od
                   obtain ⟨Aoz2, coz2, eoz2⟩ := Kd.R_slice HO_7.out
                   subst eoz2
                   obtain ⟨ad703, e703, hx703_0⟩ := Kd.at_int (Kd.R_reads' HO_7.out).2.2 x55_2 p703 q703
                   cases e703
                   replace p703 := eq_true p703
                   replace q703 := eq_true q703
                   have p708 : 0 ≤ (x55_2 : Int) := od
                   have q708 : x55_2 < (t689.length : Int) := od
                   obtain ⟨ad708, e708, hx708_0⟩ := Kd.at_int (Kd.R_reads' HO_7.out).2.2 x55_2 p708 q708
                   obtain rfl : ad703 = ad708 := (by injection e708)
                   replace p708 := eq_true p708
                   replace q708 := eq_true q708
                   have p702 : 0 ≤ (1 : Int) := (by omega)
                   have q702 : 1 < ((rd_L5 t678 x55_2).length : Int) := od
                   obtain ⟨ad702, e702, hx702_0⟩ := Kd.at_int (by repeat (first | (with_reducible exact HR699_0.out) | (with_reducible refine Kd.C_alloc ?_ _) | (with_reducible refine Kd.C_drewN ?_ _) | (with_reducible refine Kd.C_drew ?_) | exact HR699_0.out)) 1 p702 q702
                   obtain rfl : ad700 = ad702 := (by injection e702)
                   (try simp only [show (1 : Int).toNat = 1 from rfl, Nat.reduceMul, Nat.reduceEqDiff, Go.Addr.add, ↓reduceIte] at hx702_0)
                   have qi702 : (1 < (rd_L5 t678 x55_2).length) = True := eq_true (by omega)
                   replace p702 := eq_true p702
                   replace q702 := eq_true q702
                   have p704 : 0 ≤ (3 : Int) := (by omega)
                   have q704 : 3 < ((rd_L5 t678 x55_2).length : Int) := od
                   obtain ⟨ad704, e704, hx704_0⟩ := Kd.at_int (by repeat (first | (with_reducible exact HR699_0.out) | (with_reducible refine Kd.C_alloc ?_ _) | (with_reducible refine Kd.C_drewN ?_ _) | (with_reducible refine Kd.C_drew ?_) | exact HR699_0.out)) 3 p704 q704
                   obtain rfl : ad700 = ad704 := (by injection e704)
                   (try simp only [show (3 : Int).toNat = 3 from rfl, Nat.reduceMul, Nat.reduceEqDiff, Go.Addr.add, ↓reduceIte] at hx704_0)
                   have qi704 : (3 < (rd_L5 t678 x55_2).length) = True := eq_true (by omega)
                   replace p704 := eq_true p704
                   replace q704 := eq_true q704
                   have p705 : 0 ≤ (3 : Int) := (by omega)
                   have q705 : 3 < ((rd_L5 t678 x55_2).length : Int) := od
                   obtain ⟨ad705, e705, hx705_0⟩ := Kd.at_int (by repeat (first | (with_reducible exact HR699_0.out) | (with_reducible refine Kd.C_alloc ?_ _) | (with_reducible refine Kd.C_drewN ?_ _) | (with_reducible refine Kd.C_drew ?_) | exact HR699_0.out)) 3 p705 q705
                   obtain rfl : ad700 = ad705 := (by injection e705)
                   (try simp only [show (3 : Int).toNat = 3 from rfl, Nat.reduceMul, Nat.reduceEqDiff, Go.Addr.add, ↓reduceIte] at hx705_0)
                   have qi705 : (3 < (rd_L5 t678 x55_2).length) = True := eq_true (by omega)
                   replace p705 := eq_true p705
                   replace q705 := eq_true q705
                   have p707 : 0 ≤ (3 : Int) := (by omega)
                   have q707 : 3 < ((rd_L5 t678 x55_2).length : Int) := od
                   obtain ⟨ad707, e707, hx707_0⟩ := Kd.at_int (by repeat (first | (with_reducible exact HR699_0.out) | (with_reducible refine Kd.C_alloc ?_ _) | (with_reducible refine Kd.C_drewN ?_ _) | (with_reducible refine Kd.C_drew ?_) | exact HR699_0.out)) 3 p707 q707
                   obtain rfl : ad700 = ad707 := (by injection e707)
                   (try simp only [show (3 : Int).toNat = 3 from rfl, Nat.reduceMul, Nat.reduceEqDiff, Go.Addr.add, ↓reduceIte] at hx707_0)
                   have qi707 : (3 < (rd_L5 t678 x55_2).length) = True := eq_true (by omega)
                   replace p707 := eq_true p707
                   replace q707 := eq_true q707
                   refine start_ (n := 44) (S := fun w' => w'.cell? ad700 = some (.int .i64 (rd (rd_L5 t678 x55_2) 0)) ∧ w'.cell? ⟨ad700.block, ad700.off + 1, none⟩ = some (.int .i64 (rd (rd_L5 t678 x55_2) 1)) ∧ w'.cell? (ad703.add (x55_2).toNat) = some (.int .i64 (rd t689 x55_2)) ∧ w'.cell? ⟨ad700.block, ad700.off + 3, none⟩ = some (.int .i64 (rd (rd_L5 t678 x55_2) 3)) ∧ w'.cell? ⟨ad700.block, ad700.off + 3, none⟩ = some (.int .i64 (rd (rd_L5 t678 x55_2) 3)) ∧ w'.cell? ⟨ad700.block, ad700.off + 3, none⟩ = some (.int .i64 (rd (rd_L5 t678 x55_2) 3)) ∧ w'.cell? (ad703.add (x55_2).toNat) = some (.int .i64 (rd t689 x55_2))) (ds := []) (bl 44 0) (by kernel_rfl) rfl (by kernel_rfl) ⟨hx700_0, hx702_0, hx703_0, hx704_0, hx705_0, hx707_0, hx708_0⟩ (fun hHeld => ?_); refine with_tabW laws_FnClaims.tab12 laws_FnClaims.bits12 (fun HT_ HW_ => ?_)
                   generalize wr.drew = w51 at HO_4 HO_6 HO_7 HO_8 HO_53 HL699_0 HR699_0 HB hx700_0 hx703_0 hx708_0 hHeld ⊢
                   refine pA 0 (some 60) (bl 44 1) HT_ (h := ?_)
                   refine pA 1 (some 61) (bl 44 3) HT_ (h := ?_)
                   refine pA 3 (some 63) (bl 44 11) HT_ (h := ?_)
                   refine pA 4 (some 64) (bl 44 27) HT_ (h := ?_)
                   refine pA 5 (some 65) (bl 44 59) HT_ (h := ?_)
                   refine tA 2 (some 62) (bl 44 63) HT_ HW_ hHeld (h := ?_)
                   refine one_ (i := 6) (N := some 66) (bl 44 127) rfl rfl (one_of HT_.out (by kernel_rfl)) (by decide) (fun K hK => ?_)
                   refine goes_ Try.func41 (by kernel_rfl) rfl #[.int .i64 t673, .slice Ao7 t674.length co7, .int .i64 x55_2] (by rfl) rfl rfl (by (try simp only [List.map_toArray, List.map_cons, List.map_nil]); first | done | rfl | (simp only [List.length_drop, List.length_take]; rfl)) ?_
                   with_reducible refine (impl_RootOf.calls k2 t673 _ _ t674 x55_2 t701 _ ?side1 ?side2 A37.out).mono ?_
                   (case side1 => repeat (first | exact (Kd.R_reads' HO_4.out).2.2 | (with_reducible refine Kd.C_alloc ?_ _) | (with_reducible refine Kd.C_drewN ?_ _) | (with_reducible refine Kd.C_drew ?_)))
                   (case side2 => exact (Kd.R_reads' HO_4.out).2.1)
                   rintro e w52 ⟨rfl, hb⟩
                   have HS0_ := (hb.cell (World.block_lt_of_cell? _ _ (hHeld.1))).trans (hHeld.1)
                   have HS1_ := (hb.cell (World.block_lt_of_cell? _ _ (hHeld.2.1))).trans (hHeld.2.1)
                   have HS2_ := (hb.cell (World.block_lt_of_cell? _ _ (hHeld.2.2.1))).trans (hHeld.2.2.1)
                   have HS3_ := (hb.cell (World.block_lt_of_cell? _ _ (hHeld.2.2.2.1))).trans (hHeld.2.2.2.1)
                   have HS4_ := (hb.cell (World.block_lt_of_cell? _ _ (hHeld.2.2.2.2.1))).trans (hHeld.2.2.2.2.1)
                   have HS5_ := (hb.cell (World.block_lt_of_cell? _ _ (hHeld.2.2.2.2.2.1))).trans (hHeld.2.2.2.2.2.1)
                   have HS6_ := (hb.cell (World.block_lt_of_cell? _ _ (hHeld.2.2.2.2.2.2))).trans (hHeld.2.2.2.2.2.2)
                   refine ⟨_, rfl, ?_⟩
                   have n0_ := Aside0.mk (Kd.R_below (ru HO_4.out) hb)
                   have n1_ := Aside0.mk (Kd.S_below (by (with_reducible repeat (first | apply Kd.S_alloc | apply Kd.S_drewN | apply Kd.S_drew)); exact HO_6.out) hb)
                   have n2_ := Aside0.mk (Kd.R_below (ru HO_7.out) hb)
                   have n3_ := Aside0.mk (Kd.R_below (ru HO_8.out) hb)
                   have n4_ := Aside0.mk (Kd.S_below (by (with_reducible repeat (first | apply Kd.S_alloc | apply Kd.S_drewN | apply Kd.S_drew)); exact HO_53.out) hb)
                   have n5_ := Aside0.mk (Kd.R_below (ru HL699_0.out) hb)
                   have n6_ := Aside0.mk (Kd.C_below (by repeat (first | (with_reducible exact HR699_0.out) | (with_reducible refine Kd.C_alloc ?_ _) | (with_reducible refine Kd.C_drewN ?_ _) | (with_reducible refine Kd.C_drew ?_) | exact HR699_0.out)) hb)
                   have n7_ := Aside0.mk (below_step (bw HB.out) hb)
                   clear HO_4
                   clear HO_6
                   clear HO_7
                   clear HO_8
                   clear HO_53
                   clear HL699_0
                   clear HR699_0
                   clear HB
                   have HO_4 := n0_
                   have HO_6 := n1_
                   have HO_7 := n2_
                   have HO_8 := n3_
                   have HO_53 := n4_
                   have HL699_0 := n5_
                   have HR699_0 := n6_
                   have HB := n7_
                   clear n0_ n1_ n2_ n3_ n4_ n5_ n6_ n7_
                   (try clear hb)
                   (try clear hb2)
                   (try clear hk)
                   (try clear hi)
                   have p702 : 0 ≤ (1 : Int) := (by omega)
                   have q702 : 1 < ((rd_L5 t678 x55_2).length : Int) := od
                   obtain ⟨ad702, e702, hx702_0⟩ := Kd.at_int (by repeat (first | (with_reducible exact HR699_0.out) | (with_reducible refine Kd.C_alloc ?_ _) | (with_reducible refine Kd.C_drewN ?_ _) | (with_reducible refine Kd.C_drew ?_) | exact HR699_0.out)) 1 p702 q702
                   obtain rfl : ad700 = ad702 := (by injection e702)
                   (try simp only [show (1 : Int).toNat = 1 from rfl, Nat.reduceMul, Nat.reduceEqDiff, Go.Addr.add, ↓reduceIte] at hx702_0)
                   have qi702 : (1 < (rd_L5 t678 x55_2).length) = True := eq_true (by omega)
                   (try rw [show ((1 : Int)).toNat = 1 from rfl] at hx702_0)
                   replace p702 := eq_true p702
                   replace q702 := eq_true q702
                   obtain ⟨Ao53, co53, eo53⟩ := Kd.R_slice HO_7.out
                   (first | subst eo53 | (injection eo53 with f1_ f2_ f3_; have f4_ := f1_.symm; have f5_ := f3_.symm; clear f1_ f2_ f3_; subst f4_; subst f5_))
                   have p704 : 0 ≤ (3 : Int) := (by omega)
                   have q704 : 3 < ((rd_L5 t678 x55_2).length : Int) := od
                   obtain ⟨ad704, e704, hx704_0⟩ := Kd.at_int (by repeat (first | (with_reducible exact HR699_0.out) | (with_reducible refine Kd.C_alloc ?_ _) | (with_reducible refine Kd.C_drewN ?_ _) | (with_reducible refine Kd.C_drew ?_) | exact HR699_0.out)) 3 p704 q704
                   obtain rfl : ad700 = ad704 := (by injection e704)
                   (try simp only [show (3 : Int).toNat = 3 from rfl, Nat.reduceMul, Nat.reduceEqDiff, Go.Addr.add, ↓reduceIte] at hx704_0)
                   have qi704 : (3 < (rd_L5 t678 x55_2).length) = True := eq_true (by omega)
                   (try rw [show ((3 : Int)).toNat = 3 from rfl] at hx704_0)
                   replace p704 := eq_true p704
                   replace q704 := eq_true q704
                   have p705 : 0 ≤ (3 : Int) := (by omega)
                   have q705 : 3 < ((rd_L5 t678 x55_2).length : Int) := od
                   obtain ⟨ad705, e705, hx705_0⟩ := Kd.at_int (by repeat (first | (with_reducible exact HR699_0.out) | (with_reducible refine Kd.C_alloc ?_ _) | (with_reducible refine Kd.C_drewN ?_ _) | (with_reducible refine Kd.C_drew ?_) | exact HR699_0.out)) 3 p705 q705
                   obtain rfl : ad700 = ad705 := (by injection e705)
                   (try simp only [show (3 : Int).toNat = 3 from rfl, Nat.reduceMul, Nat.reduceEqDiff, Go.Addr.add, ↓reduceIte] at hx705_0)
                   have qi705 : (3 < (rd_L5 t678 x55_2).length) = True := eq_true (by omega)
                   (try rw [show ((3 : Int)).toNat = 3 from rfl] at hx705_0)
                   replace p705 := eq_true p705
                   replace q705 := eq_true q705
                   obtain ⟨Ao54, co54, eo54⟩ := Kd.R_slice HO_8.out
                   (first | subst eo54 | (injection eo54 with f1_ f2_ f3_; have f4_ := f1_.symm; have f5_ := f3_.symm; clear f1_ f2_ f3_; subst f4_; subst f5_))
                   refine hK.out _ _ ⟨HS0_, HS1_, HS2_, HS3_, HS4_, HS5_, HS6_⟩ (fun hHeld => ?_)
                   clear hK K
                   refine norm_ (a' := ?_) ?_ ?_
                   rotate_left
                   ·show Act.put _ (some 66) _ = _
                    simp only [Act.put, List.setIfInBounds_toArray, List.set_cons_zero, List.set_cons_succ, i64_w, i32_w]
                    rfl
                   refine pA 7 (some 67) (bl 44 255) HT_ (h := ?_)
                   refine pA 8 (some 68) (bl 44 511) HT_ (h := ?_)
                   refine pA 9 (some 69) (bl 44 1023) HT_ (h := ?_)
                   refine pA 10 (some 70) (bl 44 2047) HT_ (h := ?_)
                   refine pA 12 (some 72) (bl 44 6143) HT_ (h := ?_)
                   refine pA 13 (some 73) (bl 44 14335) HT_ (h := ?_)
                   refine pA 14 (some 74) (bl 44 30719) HT_ (h := ?_)
                   refine tA 11 (some 71) (bl 44 32767) HT_ HW_ hHeld (h := ?_)
                   refine tA 15 (some 75) (bl 44 65535) HT_ HW_ hHeld (h := ?_)
                   refine pA 16 (some 76) (bl 44 131071) HT_ (h := ?_)
                   refine pA 17 (some 77) (bl 44 262143) HT_ (h := ?_)
                   refine pA 18 (some 78) (bl 44 524287) HT_ (h := ?_)
                   refine pA 19 (some 79) (bl 44 1048575) HT_ (h := ?_)
                   refine pA 20 (some 80) (bl 44 2097151) HT_ (h := ?_)
                   refine tA 21 (some 81) (bl 44 4194303) HT_ HW_ hHeld (h := ?_)
                   refine pA 22 (some 82) (bl 44 8388607) HT_ (h := ?_)
                   refine pA 23 (some 83) (bl 44 16777215) HT_ (h := ?_)
                   refine pA 24 (some 84) (bl 44 33554431) HT_ (h := ?_)
                   refine pA 25 (some 85) (bl 44 67108863) HT_ (h := ?_)
                   refine pA 26 (some 86) (bl 44 134217727) HT_ (h := ?_)
                   refine tA 27 (some 87) (bl 44 268435455) HT_ HW_ hHeld (h := ?_)
                   refine one_ (i := 28) (N := some 88) (bl 44 536870911) rfl rfl (one_of HT_.out (by kernel_rfl)) (by decide) (fun K hK => ?_)
                   refine goes_ Try.func46 (by kernel_rfl) rfl #[.slice Ao54 t692.length co54, .int .i64 (rd (rd_L5 t678 x55_2) 3)] (by rfl) rfl rfl (by (try simp only [List.map_toArray, List.map_cons, List.map_nil]); first | done | rfl | (simp only [List.length_drop, List.length_take]; rfl)) ?_
                   with_reducible refine (laws_wnHas.calls k2 _ _ t692 (rd (rd_L5 t678 x55_2) 3) true _ ?side1 ?side2 A44.out).mono ?_
                   (case side1 => repeat (first | exact (Kd.R_reads' HO_8.out).2.2 | (with_reducible refine Kd.C_alloc ?_ _) | (with_reducible refine Kd.C_drewN ?_ _) | (with_reducible refine Kd.C_drew ?_)))
                   (case side2 => exact (Kd.R_reads' HO_8.out).2.1)
                   rintro e w' ⟨rfl, ⟨nd, rfl⟩⟩
                   refine ⟨_, rfl, ?_⟩
                   have p707 : 0 ≤ (3 : Int) := (by omega)
                   have q707 : 3 < ((rd_L5 t678 x55_2).length : Int) := od
                   obtain ⟨ad707, e707, hx707_0⟩ := Kd.at_int (by repeat (first | (with_reducible exact HR699_0.out) | (with_reducible refine Kd.C_alloc ?_ _) | (with_reducible refine Kd.C_drewN ?_ _) | (with_reducible refine Kd.C_drew ?_) | exact HR699_0.out)) 3 p707 q707
                   obtain rfl : ad700 = ad707 := (by injection e707)
                   (try simp only [show (3 : Int).toNat = 3 from rfl, Nat.reduceMul, Nat.reduceEqDiff, Go.Addr.add, ↓reduceIte] at hx707_0)
                   have qi707 : (3 < (rd_L5 t678 x55_2).length) = True := eq_true (by omega)
                   (try rw [show ((3 : Int)).toNat = 3 from rfl] at hx707_0)
                   replace p707 := eq_true p707
                   replace q707 := eq_true q707
                   refine hK.out _ _ ⟨hHeld.1, hHeld.2.1, hHeld.2.2.1, hHeld.2.2.2.1, hHeld.2.2.2.2.1, hHeld.2.2.2.2.2.1, hHeld.2.2.2.2.2.2⟩ (fun hHeld => ?_)
                   clear hK K
                   refine norm_ (a' := ?_) ?_ ?_
                   rotate_left
                   ·show Act.put _ (some 88) _ = _
                    simp only [Act.put, List.setIfInBounds_toArray, List.set_cons_zero, List.set_cons_succ, i64_w, i32_w]
                    rfl
                   refine pA 29 (some 89) (bl 44 1073741823) HT_ (h := ?_)
                   refine pA 30 (some 90) (bl 44 2147483647) HT_ (h := ?_)
                   refine pA 31 (some 91) (bl 44 4294967295) HT_ (h := ?_)
                   refine pA 32 (some 92) (bl 44 8589934591) HT_ (h := ?_)
                   refine pA 33 (some 93) (bl 44 17179869183) HT_ (h := ?_)
                   refine pA 34 (some 94) (bl 44 34359738367) HT_ (h := ?_)
                   refine pA 37 (some 97) (bl 44 171798691839) HT_ (h := ?_)
                   refine pA 38 (some 98) (bl 44 446676598783) HT_ (h := ?_)
                   refine pA 39 (some 99) (bl 44 996432412671) HT_ (h := ?_)
                   refine tA 35 (some 95) (bl 44 1030792151039) HT_ HW_ hHeld (h := ?_)
                   refine pA 36 (some 96) (bl 44 1099511627775) HT_ (h := ?_)
                   refine tA 40 (some 100) (bl 44 2199023255551) HT_ HW_ hHeld (h := ?_)
                   refine pA 41 (some 101) (bl 44 4398046511103) HT_ (h := ?_)
                   refine pA 42 (some 102) (bl 44 8796093022207) HT_ (h := ?_)
                   refine pA 43 (some 103) (bl 44 17592186044415) HT_ (h := ?_)
                   refine done_ (done_of HT_.out (by kernel_rfl)) ?_
                   try go_wp2
                   go_roundg k2
                   case measure => have := HJ4.out; have := HK2.out; omega
                   case rel => exact ⟨(wrap64 (x55_2 + 1)), fs, H', ⟨by have := HJ4.out; have := HK2.out; omega⟩, ⟨ru HO_4.out⟩, ⟨by (with_reducible repeat (first | apply Kd.S_alloc | apply Kd.S_drewN | apply Kd.S_drew)); exact HO_6.out⟩, ⟨ru HO_7.out⟩, ⟨ru HO_8.out⟩, ⟨by (with_reducible repeat (first | apply Kd.S_alloc | apply Kd.S_drewN | apply Kd.S_drew)); exact HO_53.out⟩, ⟨bw HB.out⟩⟩
                 ·replace c45 := Bool.eq_false_iff.mpr c45
                  subst c45
                  rw [if_neg (show ¬ (false = true) by decide)] at H
                  obtain rfl := Option.some.inj H
                  have p699 : 0 ≤ (x55_2 : Int) := od
                  have q699 : x55_2 < (t678.length : Int) := od
                  obtain ⟨ad699, A699_0, c699_0, e699, hx699_0, hl699_0, hi699_0⟩ := at_L5 (Kd.S_reads' HO_53.out).2.2 x55_2 p699 q699
                  cases e699
                  obtain ⟨ce699, hce699, hMe699, hcc699⟩ := Kd.S_get HO_53.out [] x55_2 p699 (by first | exact q699 | exact od | (have e_ := (Kd.S_reads' HO_53.out).1; omega))
                  obtain ⟨ve699_0, rfl, ge699_0⟩ := hMe699
                  have hv699_0 := hcc699 0 _ rfl
                  rw [Nat.add_zero, show ((Kd.slice 3 (Kd.int .i64))).sz = 1 from rfl, Nat.mul_one] at hv699_0
                  replace hv699_0 := Option.some.inj (hv699_0.symm.trans hx699_0)
                  rw [hv699_0] at ge699_0
                  have HL699_0 := Aside0.mk (show Kd.R (Kd.int .i64) 3 _ _ _ _ (rd_L5 t678 x55_2) from ge699_0)
                  clear hv699_0 ge699_0
                  clear hcc699 hce699
                  have HR699_0 := Aside0.mk hi699_0
                  have HC699_0 := Aside0.mk hl699_0
                  clear hi699_0 hl699_0
                  replace p699 := eq_true p699
                  replace q699 := eq_true q699
                  try go_wp2
                  have n0_ := Aside0.mk (Kd.R_drew HO_4.out)
                  have n1_ := Aside0.mk (Kd.S_drew HO_6.out)
                  have n2_ := Aside0.mk (Kd.R_drew HO_7.out)
                  have n3_ := Aside0.mk (Kd.R_drew HO_8.out)
                  have n4_ := Aside0.mk (Kd.S_drew HO_53.out)
                  have n5_ := Aside0.mk (Kd.R_drew HL699_0.out)
                  have n6_ := Aside0.mk (Kd.C_drew HR699_0.out)
                  have n7_ := Aside0.mk (below_drew1 HB.out)
                  clear HO_4
                  clear HO_6
                  clear HO_7
                  clear HO_8
                  clear HO_53
                  clear HL699_0
                  clear HR699_0
                  clear HB
                  have HO_4 := n0_
                  have HO_6 := n1_
                  have HO_7 := n2_
                  have HO_8 := n3_
                  have HO_53 := n4_
                  have HL699_0 := n5_
                  have HR699_0 := n6_
                  have HB := n7_
                  clear n0_ n1_ n2_ n3_ n4_ n5_ n6_ n7_
                  have p700 : 0 ≤ (0 : Int) := (by omega)
                  have q700 : 0 < ((rd_L5 t678 x55_2).length : Int) := od
                  obtain ⟨ad700, e700, hx700_0⟩ := Kd.at_int (by repeat (first | (with_reducible exact HR699_0.out) | (with_reducible refine Kd.C_alloc ?_ _) | (with_reducible refine Kd.C_drewN ?_ _) | (with_reducible refine Kd.C_drew ?_) | exact HR699_0.out)) 0 p700 q700
                  cases e700
                  have qi700 : (0 < (rd_L5 t678 x55_2).length) = True := eq_true (by omega)
                  (try rw [show ((0 : Int)).toNat = 0 from rfl] at hx700_0)
                  (try rw [Addr.add_zero'] at hx700_0)
                  replace p700 := eq_true p700
                  replace q700 := eq_true q700
                  have p703 : 0 ≤ (x55_2 : Int) := od
                  have q703 : x55_2 < (t689.length : Int) := od
                  obtain ⟨Aoz3, coz3, eoz3⟩ := Kd.R_slice HO_7.out
                  subst eoz3
                  obtain ⟨ad703, e703, hx703_0⟩ := Kd.at_int (Kd.R_reads' HO_7.out).2.2 x55_2 p703 q703
                  cases e703
                  replace p703 := eq_true p703
                  replace q703 := eq_true q703
                  have p702 : 0 ≤ (1 : Int) := (by omega)
                  have q702 : 1 < ((rd_L5 t678 x55_2).length : Int) := od
                  obtain ⟨ad702, e702, hx702_0⟩ := Kd.at_int (by repeat (first | (with_reducible exact HR699_0.out) | (with_reducible refine Kd.C_alloc ?_ _) | (with_reducible refine Kd.C_drewN ?_ _) | (with_reducible refine Kd.C_drew ?_) | exact HR699_0.out)) 1 p702 q702
                  obtain rfl : ad700 = ad702 := (by injection e702)
                  (try simp only [show (1 : Int).toNat = 1 from rfl, Nat.reduceMul, Nat.reduceEqDiff, Go.Addr.add, ↓reduceIte] at hx702_0)
                  have qi702 : (1 < (rd_L5 t678 x55_2).length) = True := eq_true (by omega)
                  replace p702 := eq_true p702
                  replace q702 := eq_true q702
                  have p704 : 0 ≤ (3 : Int) := (by omega)
                  have q704 : 3 < ((rd_L5 t678 x55_2).length : Int) := od
                  obtain ⟨ad704, e704, hx704_0⟩ := Kd.at_int (by repeat (first | (with_reducible exact HR699_0.out) | (with_reducible refine Kd.C_alloc ?_ _) | (with_reducible refine Kd.C_drewN ?_ _) | (with_reducible refine Kd.C_drew ?_) | exact HR699_0.out)) 3 p704 q704
                  obtain rfl : ad700 = ad704 := (by injection e704)
                  (try simp only [show (3 : Int).toNat = 3 from rfl, Nat.reduceMul, Nat.reduceEqDiff, Go.Addr.add, ↓reduceIte] at hx704_0)
                  have qi704 : (3 < (rd_L5 t678 x55_2).length) = True := eq_true (by omega)
                  replace p704 := eq_true p704
                  replace q704 := eq_true q704
                  have p705 : 0 ≤ (3 : Int) := (by omega)
                  have q705 : 3 < ((rd_L5 t678 x55_2).length : Int) := od
                  obtain ⟨ad705, e705, hx705_0⟩ := Kd.at_int (by repeat (first | (with_reducible exact HR699_0.out) | (with_reducible refine Kd.C_alloc ?_ _) | (with_reducible refine Kd.C_drewN ?_ _) | (with_reducible refine Kd.C_drew ?_) | exact HR699_0.out)) 3 p705 q705
                  obtain rfl : ad700 = ad705 := (by injection e705)
                  (try simp only [show (3 : Int).toNat = 3 from rfl, Nat.reduceMul, Nat.reduceEqDiff, Go.Addr.add, ↓reduceIte] at hx705_0)
                  have qi705 : (3 < (rd_L5 t678 x55_2).length) = True := eq_true (by omega)
                  replace p705 := eq_true p705
                  replace q705 := eq_true q705
                  refine start_ (n := 44) (S := fun w' => w'.cell? ad700 = some (.int .i64 (rd (rd_L5 t678 x55_2) 0)) ∧ w'.cell? ⟨ad700.block, ad700.off + 1, none⟩ = some (.int .i64 (rd (rd_L5 t678 x55_2) 1)) ∧ w'.cell? (ad703.add (x55_2).toNat) = some (.int .i64 (rd t689 x55_2)) ∧ w'.cell? ⟨ad700.block, ad700.off + 3, none⟩ = some (.int .i64 (rd (rd_L5 t678 x55_2) 3)) ∧ w'.cell? ⟨ad700.block, ad700.off + 3, none⟩ = some (.int .i64 (rd (rd_L5 t678 x55_2) 3))) (ds := []) (bl 44 0) (by kernel_rfl) rfl (by kernel_rfl) ⟨hx700_0, hx702_0, hx703_0, hx704_0, hx705_0⟩ (fun hHeld => ?_); refine with_tabW laws_FnClaims.tab12 laws_FnClaims.bits12 (fun HT_ HW_ => ?_)
                  generalize wr.drew = w55 at HO_4 HO_6 HO_7 HO_8 HO_53 HL699_0 HR699_0 HB hx700_0 hx703_0 hHeld ⊢
                  refine pA 0 (some 60) (bl 44 1) HT_ (h := ?_)
                  refine pA 1 (some 61) (bl 44 3) HT_ (h := ?_)
                  refine pA 3 (some 63) (bl 44 11) HT_ (h := ?_)
                  refine pA 4 (some 64) (bl 44 27) HT_ (h := ?_)
                  refine pA 5 (some 65) (bl 44 59) HT_ (h := ?_)
                  refine tA 2 (some 62) (bl 44 63) HT_ HW_ hHeld (h := ?_)
                  refine one_ (i := 6) (N := some 66) (bl 44 127) rfl rfl (one_of HT_.out (by kernel_rfl)) (by decide) (fun K hK => ?_)
                  refine goes_ Try.func41 (by kernel_rfl) rfl #[.int .i64 t673, .slice Ao7 t674.length co7, .int .i64 x55_2] (by rfl) rfl rfl (by (try simp only [List.map_toArray, List.map_cons, List.map_nil]); first | done | rfl | (simp only [List.length_drop, List.length_take]; rfl)) ?_
                  with_reducible refine (impl_RootOf.calls k2 t673 _ _ t674 x55_2 t701 _ ?side1 ?side2 A37.out).mono ?_
                  (case side1 => repeat (first | exact (Kd.R_reads' HO_4.out).2.2 | (with_reducible refine Kd.C_alloc ?_ _) | (with_reducible refine Kd.C_drewN ?_ _) | (with_reducible refine Kd.C_drew ?_)))
                  (case side2 => exact (Kd.R_reads' HO_4.out).2.1)
                  rintro e w56 ⟨rfl, hb⟩
                  have HS0_ := (hb.cell (World.block_lt_of_cell? _ _ (hHeld.1))).trans (hHeld.1)
                  have HS1_ := (hb.cell (World.block_lt_of_cell? _ _ (hHeld.2.1))).trans (hHeld.2.1)
                  have HS2_ := (hb.cell (World.block_lt_of_cell? _ _ (hHeld.2.2.1))).trans (hHeld.2.2.1)
                  have HS3_ := (hb.cell (World.block_lt_of_cell? _ _ (hHeld.2.2.2.1))).trans (hHeld.2.2.2.1)
                  have HS4_ := (hb.cell (World.block_lt_of_cell? _ _ (hHeld.2.2.2.2))).trans (hHeld.2.2.2.2)
                  refine ⟨_, rfl, ?_⟩
                  have n0_ := Aside0.mk (Kd.R_below (ru HO_4.out) hb)
                  have n1_ := Aside0.mk (Kd.S_below (by (with_reducible repeat (first | apply Kd.S_alloc | apply Kd.S_drewN | apply Kd.S_drew)); exact HO_6.out) hb)
                  have n2_ := Aside0.mk (Kd.R_below (ru HO_7.out) hb)
                  have n3_ := Aside0.mk (Kd.R_below (ru HO_8.out) hb)
                  have n4_ := Aside0.mk (Kd.S_below (by (with_reducible repeat (first | apply Kd.S_alloc | apply Kd.S_drewN | apply Kd.S_drew)); exact HO_53.out) hb)
                  have n5_ := Aside0.mk (Kd.R_below (ru HL699_0.out) hb)
                  have n6_ := Aside0.mk (Kd.C_below (by repeat (first | (with_reducible exact HR699_0.out) | (with_reducible refine Kd.C_alloc ?_ _) | (with_reducible refine Kd.C_drewN ?_ _) | (with_reducible refine Kd.C_drew ?_) | exact HR699_0.out)) hb)
                  have n7_ := Aside0.mk (below_step (bw HB.out) hb)
                  clear HO_4
                  clear HO_6
                  clear HO_7
                  clear HO_8
                  clear HO_53
                  clear HL699_0
                  clear HR699_0
                  clear HB
                  have HO_4 := n0_
                  have HO_6 := n1_
                  have HO_7 := n2_
                  have HO_8 := n3_
                  have HO_53 := n4_
                  have HL699_0 := n5_
                  have HR699_0 := n6_
                  have HB := n7_
                  clear n0_ n1_ n2_ n3_ n4_ n5_ n6_ n7_
                  (try clear hb)
                  (try clear hb2)
                  (try clear hk)
                  (try clear hi)
                  have p702 : 0 ≤ (1 : Int) := (by omega)
                  have q702 : 1 < ((rd_L5 t678 x55_2).length : Int) := od
                  obtain ⟨ad702, e702, hx702_0⟩ := Kd.at_int (by repeat (first | (with_reducible exact HR699_0.out) | (with_reducible refine Kd.C_alloc ?_ _) | (with_reducible refine Kd.C_drewN ?_ _) | (with_reducible refine Kd.C_drew ?_) | exact HR699_0.out)) 1 p702 q702
                  obtain rfl : ad700 = ad702 := (by injection e702)
                  (try simp only [show (1 : Int).toNat = 1 from rfl, Nat.reduceMul, Nat.reduceEqDiff, Go.Addr.add, ↓reduceIte] at hx702_0)
                  have qi702 : (1 < (rd_L5 t678 x55_2).length) = True := eq_true (by omega)
                  (try rw [show ((1 : Int)).toNat = 1 from rfl] at hx702_0)
                  replace p702 := eq_true p702
                  replace q702 := eq_true q702
                  obtain ⟨Ao57, co57, eo57⟩ := Kd.R_slice HO_7.out
                  (first | subst eo57 | (injection eo57 with f1_ f2_ f3_; have f4_ := f1_.symm; have f5_ := f3_.symm; clear f1_ f2_ f3_; subst f4_; subst f5_))
                  have p704 : 0 ≤ (3 : Int) := (by omega)
                  have q704 : 3 < ((rd_L5 t678 x55_2).length : Int) := od
                  obtain ⟨ad704, e704, hx704_0⟩ := Kd.at_int (by repeat (first | (with_reducible exact HR699_0.out) | (with_reducible refine Kd.C_alloc ?_ _) | (with_reducible refine Kd.C_drewN ?_ _) | (with_reducible refine Kd.C_drew ?_) | exact HR699_0.out)) 3 p704 q704
                  obtain rfl : ad700 = ad704 := (by injection e704)
                  (try simp only [show (3 : Int).toNat = 3 from rfl, Nat.reduceMul, Nat.reduceEqDiff, Go.Addr.add, ↓reduceIte] at hx704_0)
                  have qi704 : (3 < (rd_L5 t678 x55_2).length) = True := eq_true (by omega)
                  (try rw [show ((3 : Int)).toNat = 3 from rfl] at hx704_0)
                  replace p704 := eq_true p704
                  replace q704 := eq_true q704
                  have p705 : 0 ≤ (3 : Int) := (by omega)
                  have q705 : 3 < ((rd_L5 t678 x55_2).length : Int) := od
                  obtain ⟨ad705, e705, hx705_0⟩ := Kd.at_int (by repeat (first | (with_reducible exact HR699_0.out) | (with_reducible refine Kd.C_alloc ?_ _) | (with_reducible refine Kd.C_drewN ?_ _) | (with_reducible refine Kd.C_drew ?_) | exact HR699_0.out)) 3 p705 q705
                  obtain rfl : ad700 = ad705 := (by injection e705)
                  (try simp only [show (3 : Int).toNat = 3 from rfl, Nat.reduceMul, Nat.reduceEqDiff, Go.Addr.add, ↓reduceIte] at hx705_0)
                  have qi705 : (3 < (rd_L5 t678 x55_2).length) = True := eq_true (by omega)
                  (try rw [show ((3 : Int)).toNat = 3 from rfl] at hx705_0)
                  replace p705 := eq_true p705
                  replace q705 := eq_true q705
                  obtain ⟨Ao58, co58, eo58⟩ := Kd.R_slice HO_8.out
                  (first | subst eo58 | (injection eo58 with f1_ f2_ f3_; have f4_ := f1_.symm; have f5_ := f3_.symm; clear f1_ f2_ f3_; subst f4_; subst f5_))
                  refine hK.out _ _ ⟨HS0_, HS1_, HS2_, HS3_, HS4_⟩ (fun hHeld => ?_)
                  clear hK K
                  refine norm_ (a' := ?_) ?_ ?_
                  rotate_left
                  ·show Act.put _ (some 66) _ = _
                   simp only [Act.put, List.setIfInBounds_toArray, List.set_cons_zero, List.set_cons_succ, i64_w, i32_w]
                   rfl
                  refine pA 7 (some 67) (bl 44 255) HT_ (h := ?_)
                  refine pA 8 (some 68) (bl 44 511) HT_ (h := ?_)
                  refine pA 9 (some 69) (bl 44 1023) HT_ (h := ?_)
                  refine pA 10 (some 70) (bl 44 2047) HT_ (h := ?_)
                  refine pA 12 (some 72) (bl 44 6143) HT_ (h := ?_)
                  refine pA 13 (some 73) (bl 44 14335) HT_ (h := ?_)
                  refine pA 14 (some 74) (bl 44 30719) HT_ (h := ?_)
                  refine tA 11 (some 71) (bl 44 32767) HT_ HW_ hHeld (h := ?_)
                  refine tA 15 (some 75) (bl 44 65535) HT_ HW_ hHeld (h := ?_)
                  refine pA 16 (some 76) (bl 44 131071) HT_ (h := ?_)
                  refine pA 17 (some 77) (bl 44 262143) HT_ (h := ?_)
                  refine pA 18 (some 78) (bl 44 524287) HT_ (h := ?_)
                  refine pA 19 (some 79) (bl 44 1048575) HT_ (h := ?_)
                  refine pA 20 (some 80) (bl 44 2097151) HT_ (h := ?_)
                  refine tA 21 (some 81) (bl 44 4194303) HT_ HW_ hHeld (h := ?_)
                  refine pA 22 (some 82) (bl 44 8388607) HT_ (h := ?_)
                  refine pA 23 (some 83) (bl 44 16777215) HT_ (h := ?_)
                  refine pA 24 (some 84) (bl 44 33554431) HT_ (h := ?_)
                  refine pA 25 (some 85) (bl 44 67108863) HT_ (h := ?_)
                  refine pA 26 (some 86) (bl 44 134217727) HT_ (h := ?_)
                  refine tA 27 (some 87) (bl 44 268435455) HT_ HW_ hHeld (h := ?_)
                  refine one_ (i := 28) (N := some 88) (bl 44 536870911) rfl rfl (one_of HT_.out (by kernel_rfl)) (by decide) (fun K hK => ?_)
                  refine goes_ Try.func46 (by kernel_rfl) rfl #[.slice Ao58 t692.length co58, .int .i64 (rd (rd_L5 t678 x55_2) 3)] (by rfl) rfl rfl (by (try simp only [List.map_toArray, List.map_cons, List.map_nil]); first | done | rfl | (simp only [List.length_drop, List.length_take]; rfl)) ?_
                  with_reducible refine (laws_wnHas.calls k2 _ _ t692 (rd (rd_L5 t678 x55_2) 3) false _ ?side1 ?side2 A44.out).mono ?_
                  (case side1 => repeat (first | exact (Kd.R_reads' HO_8.out).2.2 | (with_reducible refine Kd.C_alloc ?_ _) | (with_reducible refine Kd.C_drewN ?_ _) | (with_reducible refine Kd.C_drew ?_)))
                  (case side2 => exact (Kd.R_reads' HO_8.out).2.1)
                  rintro e w' ⟨rfl, ⟨nd, rfl⟩⟩
                  refine ⟨_, rfl, ?_⟩
                  refine hK.out _ _ ⟨hHeld.1, hHeld.2.1, hHeld.2.2.1, hHeld.2.2.2.1, hHeld.2.2.2.2⟩ (fun hHeld => ?_)
                  clear hK K
                  refine norm_ (a' := ?_) ?_ ?_
                  rotate_left
                  ·show Act.put _ (some 88) _ = _
                   simp only [Act.put, List.setIfInBounds_toArray, List.set_cons_zero, List.set_cons_succ, i64_w, i32_w]
                   rfl
                  refine pA 29 (some 89) (bl 44 1073741823) HT_ (h := ?_)
                  refine pA 30 (some 90) (bl 44 2147483647) HT_ (h := ?_)
                  refine pA 31 (some 91) (bl 44 4294967295) HT_ (h := ?_)
                  refine pA 32 (some 92) (bl 44 8589934591) HT_ (h := ?_)
                  refine pO 33 (some 93) (bl 44 17179869183) HT_ (h := ?_)
                  refine pO 34 (some 94) (bl 44 34359738367) HT_ (h := ?_)
                  refine pO 35 (some 95) (bl 44 68719476735) HT_ (h := ?_)
                  refine pO 36 (some 96) (bl 44 137438953471) HT_ (h := ?_)
                  refine pO 37 (some 97) (bl 44 274877906943) HT_ (h := ?_)
                  refine pO 38 (some 98) (bl 44 549755813887) HT_ (h := ?_)
                  refine pO 39 (some 99) (bl 44 1099511627775) HT_ (h := ?_)
                  refine pO 40 (some 100) (bl 44 2199023255551) HT_ (h := ?_)
                  refine pO 41 (some 101) (bl 44 4398046511103) HT_ (h := ?_)
                  refine pO 42 (some 102) (bl 44 8796093022207) HT_ (h := ?_)
                  refine pA 43 (some 103) (bl 44 17592186044415) HT_ (h := ?_)
                  refine done_ (done_of HT_.out (by kernel_rfl)) ?_
                  try go_wp2
                  go_ret
                  exact ⟨fe, bw HB.out⟩
                ·rw [if_neg c43] at H
                 have c43b0 : decide (0 ≤ (rd (rd_L5 t678 x55_2) 3)) = false := decide_eq_false c43
                 clear c43
                 by_cases c59 : ((decide ((rd (rd_L5 t678 x55_2) 3) < 0)) != ((rd t689 x55_2) == 0)) = true
                 ·rw [if_pos c59] at H
                  have c59b0 : ((decide ((rd (rd_L5 t678 x55_2) 3) < 0)) != ((rd t689 x55_2) == 0)) = true := c59
                  (try (have c59b1 : decide ((decide ((rd (rd_L5 t678 x55_2) 3) < 0)) = ((rd t689 x55_2) == 0)) = false := by simpa using c59))
                  (try (have c59b2 : ((decide ((rd (rd_L5 t678 x55_2) 3) < 0)) == ((rd t689 x55_2) == 0)) = false := by simpa using c59))
                  (try (have c59b3 : ¬ ((decide ((rd (rd_L5 t678 x55_2) 3) < 0)) = ((rd t689 x55_2) == 0)) := by simpa using c59))
                  clear c59
                  obtain rfl := Option.some.inj H
                  have p699 : 0 ≤ (x55_2 : Int) := od
                  have q699 : x55_2 < (t678.length : Int) := od
                  obtain ⟨ad699, A699_0, c699_0, e699, hx699_0, hl699_0, hi699_0⟩ := at_L5 (Kd.S_reads' HO_53.out).2.2 x55_2 p699 q699
                  cases e699
                  obtain ⟨ce699, hce699, hMe699, hcc699⟩ := Kd.S_get HO_53.out [] x55_2 p699 (by first | exact q699 | exact od | (have e_ := (Kd.S_reads' HO_53.out).1; omega))
                  obtain ⟨ve699_0, rfl, ge699_0⟩ := hMe699
                  have hv699_0 := hcc699 0 _ rfl
                  rw [Nat.add_zero, show ((Kd.slice 3 (Kd.int .i64))).sz = 1 from rfl, Nat.mul_one] at hv699_0
                  replace hv699_0 := Option.some.inj (hv699_0.symm.trans hx699_0)
                  rw [hv699_0] at ge699_0
                  have HL699_0 := Aside0.mk (show Kd.R (Kd.int .i64) 3 _ _ _ _ (rd_L5 t678 x55_2) from ge699_0)
                  clear hv699_0 ge699_0
                  clear hcc699 hce699
                  have HR699_0 := Aside0.mk hi699_0
                  have HC699_0 := Aside0.mk hl699_0
                  clear hi699_0 hl699_0
                  replace p699 := eq_true p699
                  replace q699 := eq_true q699
                  try go_wp2
                  have n0_ := Aside0.mk (Kd.R_drew HO_4.out)
                  have n1_ := Aside0.mk (Kd.S_drew HO_6.out)
                  have n2_ := Aside0.mk (Kd.R_drew HO_7.out)
                  have n3_ := Aside0.mk (Kd.R_drew HO_8.out)
                  have n4_ := Aside0.mk (Kd.S_drew HO_53.out)
                  have n5_ := Aside0.mk (Kd.R_drew HL699_0.out)
                  have n6_ := Aside0.mk (Kd.C_drew HR699_0.out)
                  have n7_ := Aside0.mk (below_drew1 HB.out)
                  clear HO_4
                  clear HO_6
                  clear HO_7
                  clear HO_8
                  clear HO_53
                  clear HL699_0
                  clear HR699_0
                  clear HB
                  have HO_4 := n0_
                  have HO_6 := n1_
                  have HO_7 := n2_
                  have HO_8 := n3_
                  have HO_53 := n4_
                  have HL699_0 := n5_
                  have HR699_0 := n6_
                  have HB := n7_
                  clear n0_ n1_ n2_ n3_ n4_ n5_ n6_ n7_
                  have p700 : 0 ≤ (0 : Int) := (by omega)
                  have q700 : 0 < ((rd_L5 t678 x55_2).length : Int) := od
                  obtain ⟨ad700, e700, hx700_0⟩ := Kd.at_int (by repeat (first | (with_reducible exact HR699_0.out) | (with_reducible refine Kd.C_alloc ?_ _) | (with_reducible refine Kd.C_drewN ?_ _) | (with_reducible refine Kd.C_drew ?_) | exact HR699_0.out)) 0 p700 q700
                  cases e700
                  have qi700 : (0 < (rd_L5 t678 x55_2).length) = True := eq_true (by omega)
                  (try rw [show ((0 : Int)).toNat = 0 from rfl] at hx700_0)
                  (try rw [Addr.add_zero'] at hx700_0)
                  replace p700 := eq_true p700
                  replace q700 := eq_true q700
                  have p703 : 0 ≤ (x55_2 : Int) := od
                  have q703 : x55_2 < (t689.length : Int) := od
                  obtain ⟨Aoz4, coz4, eoz4⟩ := Kd.R_slice HO_7.out
                  subst eoz4
                  obtain ⟨ad703, e703, hx703_0⟩ := Kd.at_int (Kd.R_reads' HO_7.out).2.2 x55_2 p703 q703
                  cases e703
                  replace p703 := eq_true p703
                  replace q703 := eq_true q703
                  have p710 : 0 ≤ (x55_2 : Int) := od
                  have q710 : x55_2 < (t689.length : Int) := od
                  obtain ⟨ad710, e710, hx710_0⟩ := Kd.at_int (Kd.R_reads' HO_7.out).2.2 x55_2 p710 q710
                  obtain rfl : ad703 = ad710 := (by injection e710)
                  replace p710 := eq_true p710
                  replace q710 := eq_true q710
                  have p702 : 0 ≤ (1 : Int) := (by omega)
                  have q702 : 1 < ((rd_L5 t678 x55_2).length : Int) := od
                  obtain ⟨ad702, e702, hx702_0⟩ := Kd.at_int (by repeat (first | (with_reducible exact HR699_0.out) | (with_reducible refine Kd.C_alloc ?_ _) | (with_reducible refine Kd.C_drewN ?_ _) | (with_reducible refine Kd.C_drew ?_) | exact HR699_0.out)) 1 p702 q702
                  obtain rfl : ad700 = ad702 := (by injection e702)
                  (try simp only [show (1 : Int).toNat = 1 from rfl, Nat.reduceMul, Nat.reduceEqDiff, Go.Addr.add, ↓reduceIte] at hx702_0)
                  have qi702 : (1 < (rd_L5 t678 x55_2).length) = True := eq_true (by omega)
                  replace p702 := eq_true p702
                  replace q702 := eq_true q702
                  have p704 : 0 ≤ (3 : Int) := (by omega)
                  have q704 : 3 < ((rd_L5 t678 x55_2).length : Int) := od
                  obtain ⟨ad704, e704, hx704_0⟩ := Kd.at_int (by repeat (first | (with_reducible exact HR699_0.out) | (with_reducible refine Kd.C_alloc ?_ _) | (with_reducible refine Kd.C_drewN ?_ _) | (with_reducible refine Kd.C_drew ?_) | exact HR699_0.out)) 3 p704 q704
                  obtain rfl : ad700 = ad704 := (by injection e704)
                  (try simp only [show (3 : Int).toNat = 3 from rfl, Nat.reduceMul, Nat.reduceEqDiff, Go.Addr.add, ↓reduceIte] at hx704_0)
                  have qi704 : (3 < (rd_L5 t678 x55_2).length) = True := eq_true (by omega)
                  replace p704 := eq_true p704
                  replace q704 := eq_true q704
                  have p709 : 0 ≤ (3 : Int) := (by omega)
                  have q709 : 3 < ((rd_L5 t678 x55_2).length : Int) := od
                  obtain ⟨ad709, e709, hx709_0⟩ := Kd.at_int (by repeat (first | (with_reducible exact HR699_0.out) | (with_reducible refine Kd.C_alloc ?_ _) | (with_reducible refine Kd.C_drewN ?_ _) | (with_reducible refine Kd.C_drew ?_) | exact HR699_0.out)) 3 p709 q709
                  obtain rfl : ad700 = ad709 := (by injection e709)
                  (try simp only [show (3 : Int).toNat = 3 from rfl, Nat.reduceMul, Nat.reduceEqDiff, Go.Addr.add, ↓reduceIte] at hx709_0)
                  have qi709 : (3 < (rd_L5 t678 x55_2).length) = True := eq_true (by omega)
                  replace p709 := eq_true p709
                  replace q709 := eq_true q709
                  refine start_ (n := 44) (S := fun w' => w'.cell? ad700 = some (.int .i64 (rd (rd_L5 t678 x55_2) 0)) ∧ w'.cell? ⟨ad700.block, ad700.off + 1, none⟩ = some (.int .i64 (rd (rd_L5 t678 x55_2) 1)) ∧ w'.cell? (ad703.add (x55_2).toNat) = some (.int .i64 (rd t689 x55_2)) ∧ w'.cell? ⟨ad700.block, ad700.off + 3, none⟩ = some (.int .i64 (rd (rd_L5 t678 x55_2) 3)) ∧ w'.cell? ⟨ad700.block, ad700.off + 3, none⟩ = some (.int .i64 (rd (rd_L5 t678 x55_2) 3)) ∧ w'.cell? (ad703.add (x55_2).toNat) = some (.int .i64 (rd t689 x55_2))) (ds := []) (bl 44 0) (by kernel_rfl) rfl (by kernel_rfl) ⟨hx700_0, hx702_0, hx703_0, hx704_0, hx709_0, hx710_0⟩ (fun hHeld => ?_); refine with_tabW laws_FnClaims.tab12 laws_FnClaims.bits12 (fun HT_ HW_ => ?_)
                  generalize wr.drew = w60 at HO_4 HO_6 HO_7 HO_8 HO_53 HL699_0 HR699_0 HB hx700_0 hx703_0 hx710_0 hHeld ⊢
                  refine pA 0 (some 60) (bl 44 1) HT_ (h := ?_)
                  refine pA 1 (some 61) (bl 44 3) HT_ (h := ?_)
                  refine pA 3 (some 63) (bl 44 11) HT_ (h := ?_)
                  refine pA 4 (some 64) (bl 44 27) HT_ (h := ?_)
                  refine pA 5 (some 65) (bl 44 59) HT_ (h := ?_)
                  refine tA 2 (some 62) (bl 44 63) HT_ HW_ hHeld (h := ?_)
                  refine one_ (i := 6) (N := some 66) (bl 44 127) rfl rfl (one_of HT_.out (by kernel_rfl)) (by decide) (fun K hK => ?_)
                  refine goes_ Try.func41 (by kernel_rfl) rfl #[.int .i64 t673, .slice Ao7 t674.length co7, .int .i64 x55_2] (by rfl) rfl rfl (by (try simp only [List.map_toArray, List.map_cons, List.map_nil]); first | done | rfl | (simp only [List.length_drop, List.length_take]; rfl)) ?_
                  with_reducible refine (impl_RootOf.calls k2 t673 _ _ t674 x55_2 t701 _ ?side1 ?side2 A37.out).mono ?_
                  (case side1 => repeat (first | exact (Kd.R_reads' HO_4.out).2.2 | (with_reducible refine Kd.C_alloc ?_ _) | (with_reducible refine Kd.C_drewN ?_ _) | (with_reducible refine Kd.C_drew ?_)))
                  (case side2 => exact (Kd.R_reads' HO_4.out).2.1)
                  rintro e w61 ⟨rfl, hb⟩
                  have HS0_ := (hb.cell (World.block_lt_of_cell? _ _ (hHeld.1))).trans (hHeld.1)
                  have HS1_ := (hb.cell (World.block_lt_of_cell? _ _ (hHeld.2.1))).trans (hHeld.2.1)
                  have HS2_ := (hb.cell (World.block_lt_of_cell? _ _ (hHeld.2.2.1))).trans (hHeld.2.2.1)
                  have HS3_ := (hb.cell (World.block_lt_of_cell? _ _ (hHeld.2.2.2.1))).trans (hHeld.2.2.2.1)
                  have HS4_ := (hb.cell (World.block_lt_of_cell? _ _ (hHeld.2.2.2.2.1))).trans (hHeld.2.2.2.2.1)
                  have HS5_ := (hb.cell (World.block_lt_of_cell? _ _ (hHeld.2.2.2.2.2))).trans (hHeld.2.2.2.2.2)
                  refine ⟨_, rfl, ?_⟩
                  have n0_ := Aside0.mk (Kd.R_below (ru HO_4.out) hb)
                  have n1_ := Aside0.mk (Kd.S_below (by (with_reducible repeat (first | apply Kd.S_alloc | apply Kd.S_drewN | apply Kd.S_drew)); exact HO_6.out) hb)
                  have n2_ := Aside0.mk (Kd.R_below (ru HO_7.out) hb)
                  have n3_ := Aside0.mk (Kd.R_below (ru HO_8.out) hb)
                  have n4_ := Aside0.mk (Kd.S_below (by (with_reducible repeat (first | apply Kd.S_alloc | apply Kd.S_drewN | apply Kd.S_drew)); exact HO_53.out) hb)
                  have n5_ := Aside0.mk (Kd.R_below (ru HL699_0.out) hb)
                  have n6_ := Aside0.mk (Kd.C_below (by repeat (first | (with_reducible exact HR699_0.out) | (with_reducible refine Kd.C_alloc ?_ _) | (with_reducible refine Kd.C_drewN ?_ _) | (with_reducible refine Kd.C_drew ?_) | exact HR699_0.out)) hb)
                  have n7_ := Aside0.mk (below_step (bw HB.out) hb)
                  clear HO_4
                  clear HO_6
                  clear HO_7
                  clear HO_8
                  clear HO_53
                  clear HL699_0
                  clear HR699_0
                  clear HB
                  have HO_4 := n0_
                  have HO_6 := n1_
                  have HO_7 := n2_
                  have HO_8 := n3_
                  have HO_53 := n4_
                  have HL699_0 := n5_
                  have HR699_0 := n6_
                  have HB := n7_
                  clear n0_ n1_ n2_ n3_ n4_ n5_ n6_ n7_
                  (try clear hb)
                  (try clear hb2)
                  (try clear hk)
                  (try clear hi)
                  have p702 : 0 ≤ (1 : Int) := (by omega)
                  have q702 : 1 < ((rd_L5 t678 x55_2).length : Int) := od
                  obtain ⟨ad702, e702, hx702_0⟩ := Kd.at_int (by repeat (first | (with_reducible exact HR699_0.out) | (with_reducible refine Kd.C_alloc ?_ _) | (with_reducible refine Kd.C_drewN ?_ _) | (with_reducible refine Kd.C_drew ?_) | exact HR699_0.out)) 1 p702 q702
                  obtain rfl : ad700 = ad702 := (by injection e702)
                  (try simp only [show (1 : Int).toNat = 1 from rfl, Nat.reduceMul, Nat.reduceEqDiff, Go.Addr.add, ↓reduceIte] at hx702_0)
                  have qi702 : (1 < (rd_L5 t678 x55_2).length) = True := eq_true (by omega)
                  (try rw [show ((1 : Int)).toNat = 1 from rfl] at hx702_0)
                  replace p702 := eq_true p702
                  replace q702 := eq_true q702
                  obtain ⟨Ao62, co62, eo62⟩ := Kd.R_slice HO_7.out
                  (first | subst eo62 | (injection eo62 with f1_ f2_ f3_; have f4_ := f1_.symm; have f5_ := f3_.symm; clear f1_ f2_ f3_; subst f4_; subst f5_))
                  have p704 : 0 ≤ (3 : Int) := (by omega)
                  have q704 : 3 < ((rd_L5 t678 x55_2).length : Int) := od
                  obtain ⟨ad704, e704, hx704_0⟩ := Kd.at_int (by repeat (first | (with_reducible exact HR699_0.out) | (with_reducible refine Kd.C_alloc ?_ _) | (with_reducible refine Kd.C_drewN ?_ _) | (with_reducible refine Kd.C_drew ?_) | exact HR699_0.out)) 3 p704 q704
                  obtain rfl : ad700 = ad704 := (by injection e704)
                  (try simp only [show (3 : Int).toNat = 3 from rfl, Nat.reduceMul, Nat.reduceEqDiff, Go.Addr.add, ↓reduceIte] at hx704_0)
                  have qi704 : (3 < (rd_L5 t678 x55_2).length) = True := eq_true (by omega)
                  (try rw [show ((3 : Int)).toNat = 3 from rfl] at hx704_0)
                  replace p704 := eq_true p704
                  replace q704 := eq_true q704
                  have p709 : 0 ≤ (3 : Int) := (by omega)
                  have q709 : 3 < ((rd_L5 t678 x55_2).length : Int) := od
                  obtain ⟨ad709, e709, hx709_0⟩ := Kd.at_int (by repeat (first | (with_reducible exact HR699_0.out) | (with_reducible refine Kd.C_alloc ?_ _) | (with_reducible refine Kd.C_drewN ?_ _) | (with_reducible refine Kd.C_drew ?_) | exact HR699_0.out)) 3 p709 q709
                  obtain rfl : ad700 = ad709 := (by injection e709)
                  (try simp only [show (3 : Int).toNat = 3 from rfl, Nat.reduceMul, Nat.reduceEqDiff, Go.Addr.add, ↓reduceIte] at hx709_0)
                  have qi709 : (3 < (rd_L5 t678 x55_2).length) = True := eq_true (by omega)
                  (try rw [show ((3 : Int)).toNat = 3 from rfl] at hx709_0)
                  replace p709 := eq_true p709
                  replace q709 := eq_true q709
                  refine hK.out _ _ ⟨HS0_, HS1_, HS2_, HS3_, HS4_, HS5_⟩ (fun hHeld => ?_)
                  clear hK K
                  refine norm_ (a' := ?_) ?_ ?_
                  rotate_left
                  ·show Act.put _ (some 66) _ = _
                   simp only [Act.put, List.setIfInBounds_toArray, List.set_cons_zero, List.set_cons_succ, i64_w, i32_w]
                   rfl
                  refine pA 7 (some 67) (bl 44 255) HT_ (h := ?_)
                  refine pA 8 (some 68) (bl 44 511) HT_ (h := ?_)
                  refine pA 9 (some 69) (bl 44 1023) HT_ (h := ?_)
                  refine pA 10 (some 70) (bl 44 2047) HT_ (h := ?_)
                  refine pA 12 (some 72) (bl 44 6143) HT_ (h := ?_)
                  refine pA 13 (some 73) (bl 44 14335) HT_ (h := ?_)
                  refine pA 14 (some 74) (bl 44 30719) HT_ (h := ?_)
                  refine tA 11 (some 71) (bl 44 32767) HT_ HW_ hHeld (h := ?_)
                  refine tA 15 (some 75) (bl 44 65535) HT_ HW_ hHeld (h := ?_)
                  refine pA 16 (some 76) (bl 44 131071) HT_ (h := ?_)
                  refine pA 17 (some 77) (bl 44 262143) HT_ (h := ?_)
                  refine pA 18 (some 78) (bl 44 524287) HT_ (h := ?_)
                  refine pA 19 (some 79) (bl 44 1048575) HT_ (h := ?_)
                  refine pA 20 (some 80) (bl 44 2097151) HT_ (h := ?_)
                  refine tA 21 (some 81) (bl 44 4194303) HT_ HW_ hHeld (h := ?_)
                  refine pA 22 (some 82) (bl 44 8388607) HT_ (h := ?_)
                  refine pA 23 (some 83) (bl 44 16777215) HT_ (h := ?_)
                  refine pO 24 (some 84) (bl 44 33554431) HT_ (h := ?_)
                  refine pO 25 (some 85) (bl 44 67108863) HT_ (h := ?_)
                  refine pO 26 (some 86) (bl 44 134217727) HT_ (h := ?_)
                  refine pO 27 (some 87) (bl 44 268435455) HT_ (h := ?_)
                  refine pO 28 (some 88) (bl 44 536870911) HT_ (h := ?_)
                  refine pO 29 (some 89) (bl 44 1073741823) HT_ (h := ?_)
                  refine pA 30 (some 90) (bl 44 2147483647) HT_ (h := ?_)
                  refine pA 31 (some 91) (bl 44 4294967295) HT_ (h := ?_)
                  refine pA 32 (some 92) (bl 44 8589934591) HT_ (h := ?_)
                  refine pA 33 (some 93) (bl 44 17179869183) HT_ (h := ?_)
                  refine pA 34 (some 94) (bl 44 34359738367) HT_ (h := ?_)
                  refine pA 37 (some 97) (bl 44 171798691839) HT_ (h := ?_)
                  refine pA 38 (some 98) (bl 44 446676598783) HT_ (h := ?_)
                  refine pA 39 (some 99) (bl 44 996432412671) HT_ (h := ?_)
                  refine tA 35 (some 95) (bl 44 1030792151039) HT_ HW_ hHeld (h := ?_)
                  refine pA 36 (some 96) (bl 44 1099511627775) HT_ (h := ?_)
                  refine tA 40 (some 100) (bl 44 2199023255551) HT_ HW_ hHeld (h := ?_)
                  refine pA 41 (some 101) (bl 44 4398046511103) HT_ (h := ?_)
                  refine pA 42 (some 102) (bl 44 8796093022207) HT_ (h := ?_)
                  refine pA 43 (some 103) (bl 44 17592186044415) HT_ (h := ?_)
                  refine done_ (done_of HT_.out (by kernel_rfl)) ?_
                  try go_wp2
                  go_ret
                  exact ⟨fe, bw HB.out⟩
                 ·rw [if_neg c59] at H
                  have c59b0 : ((decide ((rd (rd_L5 t678 x55_2) 3) < 0)) != ((rd t689 x55_2) == 0)) = false := by simpa using c59
                  (try (have c59b1 : decide ((decide ((rd (rd_L5 t678 x55_2) 3) < 0)) = ((rd t689 x55_2) == 0)) = true := by simpa using c59))
                  (try (have c59b2 : ((decide ((rd (rd_L5 t678 x55_2) 3) < 0)) == ((rd t689 x55_2) == 0)) = true := by simpa using c59))
                  clear c59
                  have H' := Aside0.mk H
                  clear H
                  have p699 : 0 ≤ (x55_2 : Int) := od
                  have q699 : x55_2 < (t678.length : Int) := od
                  obtain ⟨ad699, A699_0, c699_0, e699, hx699_0, hl699_0, hi699_0⟩ := at_L5 (Kd.S_reads' HO_53.out).2.2 x55_2 p699 q699
                  cases e699
                  obtain ⟨ce699, hce699, hMe699, hcc699⟩ := Kd.S_get HO_53.out [] x55_2 p699 (by first | exact q699 | exact od | (have e_ := (Kd.S_reads' HO_53.out).1; omega))
                  obtain ⟨ve699_0, rfl, ge699_0⟩ := hMe699
                  have hv699_0 := hcc699 0 _ rfl
                  rw [Nat.add_zero, show ((Kd.slice 3 (Kd.int .i64))).sz = 1 from rfl, Nat.mul_one] at hv699_0
                  replace hv699_0 := Option.some.inj (hv699_0.symm.trans hx699_0)
                  rw [hv699_0] at ge699_0
                  have HL699_0 := Aside0.mk (show Kd.R (Kd.int .i64) 3 _ _ _ _ (rd_L5 t678 x55_2) from ge699_0)
                  clear hv699_0 ge699_0
                  clear hcc699 hce699
                  have HR699_0 := Aside0.mk hi699_0
                  have HC699_0 := Aside0.mk hl699_0
                  clear hi699_0 hl699_0
                  replace p699 := eq_true p699
                  replace q699 := eq_true q699
                  try go_wp2
                  have n0_ := Aside0.mk (Kd.R_drew HO_4.out)
                  have n1_ := Aside0.mk (Kd.S_drew HO_6.out)
                  have n2_ := Aside0.mk (Kd.R_drew HO_7.out)
                  have n3_ := Aside0.mk (Kd.R_drew HO_8.out)
                  have n4_ := Aside0.mk (Kd.S_drew HO_53.out)
                  have n5_ := Aside0.mk (Kd.R_drew HL699_0.out)
                  have n6_ := Aside0.mk (Kd.C_drew HR699_0.out)
                  have n7_ := Aside0.mk (below_drew1 HB.out)
                  clear HO_4
                  clear HO_6
                  clear HO_7
                  clear HO_8
                  clear HO_53
                  clear HL699_0
                  clear HR699_0
                  clear HB
                  have HO_4 := n0_
                  have HO_6 := n1_
                  have HO_7 := n2_
                  have HO_8 := n3_
                  have HO_53 := n4_
                  have HL699_0 := n5_
                  have HR699_0 := n6_
                  have HB := n7_
                  clear n0_ n1_ n2_ n3_ n4_ n5_ n6_ n7_
                  have p700 : 0 ≤ (0 : Int) := (by omega)
                  have q700 : 0 < ((rd_L5 t678 x55_2).length : Int) := od
                  obtain ⟨ad700, e700, hx700_0⟩ := Kd.at_int (by repeat (first | (with_reducible exact HR699_0.out) | (with_reducible refine Kd.C_alloc ?_ _) | (with_reducible refine Kd.C_drewN ?_ _) | (with_reducible refine Kd.C_drew ?_) | exact HR699_0.out)) 0 p700 q700
                  cases e700
                  have qi700 : (0 < (rd_L5 t678 x55_2).length) = True := eq_true (by omega)
                  (try rw [show ((0 : Int)).toNat = 0 from rfl] at hx700_0)
                  (try rw [Addr.add_zero'] at hx700_0)
                  replace p700 := eq_true p700
                  replace q700 := eq_true q700
                  have p703 : 0 ≤ (x55_2 : Int) := od
                  have q703 : x55_2 < (t689.length : Int) := od
                  obtain ⟨Aoz5, coz5, eoz5⟩ := Kd.R_slice HO_7.out
                  subst eoz5
                  obtain ⟨ad703, e703, hx703_0⟩ := Kd.at_int (Kd.R_reads' HO_7.out).2.2 x55_2 p703 q703
                  cases e703
                  replace p703 := eq_true p703
                  replace q703 := eq_true q703
                  have p710 : 0 ≤ (x55_2 : Int) := od
                  have q710 : x55_2 < (t689.length : Int) := od
                  obtain ⟨ad710, e710, hx710_0⟩ := Kd.at_int (Kd.R_reads' HO_7.out).2.2 x55_2 p710 q710
                  obtain rfl : ad703 = ad710 := (by injection e710)
                  replace p710 := eq_true p710
                  replace q710 := eq_true q710
                  have p702 : 0 ≤ (1 : Int) := (by omega)
                  have q702 : 1 < ((rd_L5 t678 x55_2).length : Int) := od
                  obtain ⟨ad702, e702, hx702_0⟩ := Kd.at_int (by repeat (first | (with_reducible exact HR699_0.out) | (with_reducible refine Kd.C_alloc ?_ _) | (with_reducible refine Kd.C_drewN ?_ _) | (with_reducible refine Kd.C_drew ?_) | exact HR699_0.out)) 1 p702 q702
                  obtain rfl : ad700 = ad702 := (by injection e702)
                  (try simp only [show (1 : Int).toNat = 1 from rfl, Nat.reduceMul, Nat.reduceEqDiff, Go.Addr.add, ↓reduceIte] at hx702_0)
                  have qi702 : (1 < (rd_L5 t678 x55_2).length) = True := eq_true (by omega)
                  replace p702 := eq_true p702
                  replace q702 := eq_true q702
                  have p704 : 0 ≤ (3 : Int) := (by omega)
                  have q704 : 3 < ((rd_L5 t678 x55_2).length : Int) := od
                  obtain ⟨ad704, e704, hx704_0⟩ := Kd.at_int (by repeat (first | (with_reducible exact HR699_0.out) | (with_reducible refine Kd.C_alloc ?_ _) | (with_reducible refine Kd.C_drewN ?_ _) | (with_reducible refine Kd.C_drew ?_) | exact HR699_0.out)) 3 p704 q704
                  obtain rfl : ad700 = ad704 := (by injection e704)
                  (try simp only [show (3 : Int).toNat = 3 from rfl, Nat.reduceMul, Nat.reduceEqDiff, Go.Addr.add, ↓reduceIte] at hx704_0)
                  have qi704 : (3 < (rd_L5 t678 x55_2).length) = True := eq_true (by omega)
                  replace p704 := eq_true p704
                  replace q704 := eq_true q704
                  have p709 : 0 ≤ (3 : Int) := (by omega)
                  have q709 : 3 < ((rd_L5 t678 x55_2).length : Int) := od
                  obtain ⟨ad709, e709, hx709_0⟩ := Kd.at_int (by repeat (first | (with_reducible exact HR699_0.out) | (with_reducible refine Kd.C_alloc ?_ _) | (with_reducible refine Kd.C_drewN ?_ _) | (with_reducible refine Kd.C_drew ?_) | exact HR699_0.out)) 3 p709 q709
                  obtain rfl : ad700 = ad709 := (by injection e709)
                  (try simp only [show (3 : Int).toNat = 3 from rfl, Nat.reduceMul, Nat.reduceEqDiff, Go.Addr.add, ↓reduceIte] at hx709_0)
                  have qi709 : (3 < (rd_L5 t678 x55_2).length) = True := eq_true (by omega)
                  replace p709 := eq_true p709
                  replace q709 := eq_true q709
                  refine start_ (n := 44) (S := fun w' => w'.cell? ad700 = some (.int .i64 (rd (rd_L5 t678 x55_2) 0)) ∧ w'.cell? ⟨ad700.block, ad700.off + 1, none⟩ = some (.int .i64 (rd (rd_L5 t678 x55_2) 1)) ∧ w'.cell? (ad703.add (x55_2).toNat) = some (.int .i64 (rd t689 x55_2)) ∧ w'.cell? ⟨ad700.block, ad700.off + 3, none⟩ = some (.int .i64 (rd (rd_L5 t678 x55_2) 3)) ∧ w'.cell? ⟨ad700.block, ad700.off + 3, none⟩ = some (.int .i64 (rd (rd_L5 t678 x55_2) 3)) ∧ w'.cell? (ad703.add (x55_2).toNat) = some (.int .i64 (rd t689 x55_2))) (ds := []) (bl 44 0) (by kernel_rfl) rfl (by kernel_rfl) ⟨hx700_0, hx702_0, hx703_0, hx704_0, hx709_0, hx710_0⟩ (fun hHeld => ?_); refine with_tabW laws_FnClaims.tab12 laws_FnClaims.bits12 (fun HT_ HW_ => ?_)
                  generalize wr.drew = w63 at HO_4 HO_6 HO_7 HO_8 HO_53 HL699_0 HR699_0 HB hx700_0 hx703_0 hx710_0 hHeld ⊢
                  refine pA 0 (some 60) (bl 44 1) HT_ (h := ?_)
                  refine pA 1 (some 61) (bl 44 3) HT_ (h := ?_)
                  refine pA 3 (some 63) (bl 44 11) HT_ (h := ?_)
                  refine pA 4 (some 64) (bl 44 27) HT_ (h := ?_)
                  refine pA 5 (some 65) (bl 44 59) HT_ (h := ?_)
                  refine tA 2 (some 62) (bl 44 63) HT_ HW_ hHeld (h := ?_)
                  refine one_ (i := 6) (N := some 66) (bl 44 127) rfl rfl (one_of HT_.out (by kernel_rfl)) (by decide) (fun K hK => ?_)
                  refine goes_ Try.func41 (by kernel_rfl) rfl #[.int .i64 t673, .slice Ao7 t674.length co7, .int .i64 x55_2] (by rfl) rfl rfl (by (try simp only [List.map_toArray, List.map_cons, List.map_nil]); first | done | rfl | (simp only [List.length_drop, List.length_take]; rfl)) ?_
                  with_reducible refine (impl_RootOf.calls k2 t673 _ _ t674 x55_2 t701 _ ?side1 ?side2 A37.out).mono ?_
                  (case side1 => repeat (first | exact (Kd.R_reads' HO_4.out).2.2 | (with_reducible refine Kd.C_alloc ?_ _) | (with_reducible refine Kd.C_drewN ?_ _) | (with_reducible refine Kd.C_drew ?_)))
                  (case side2 => exact (Kd.R_reads' HO_4.out).2.1)
                  rintro e w64 ⟨rfl, hb⟩
                  have HS0_ := (hb.cell (World.block_lt_of_cell? _ _ (hHeld.1))).trans (hHeld.1)
                  have HS1_ := (hb.cell (World.block_lt_of_cell? _ _ (hHeld.2.1))).trans (hHeld.2.1)
                  have HS2_ := (hb.cell (World.block_lt_of_cell? _ _ (hHeld.2.2.1))).trans (hHeld.2.2.1)
                  have HS3_ := (hb.cell (World.block_lt_of_cell? _ _ (hHeld.2.2.2.1))).trans (hHeld.2.2.2.1)
                  have HS4_ := (hb.cell (World.block_lt_of_cell? _ _ (hHeld.2.2.2.2.1))).trans (hHeld.2.2.2.2.1)
                  have HS5_ := (hb.cell (World.block_lt_of_cell? _ _ (hHeld.2.2.2.2.2))).trans (hHeld.2.2.2.2.2)
                  refine ⟨_, rfl, ?_⟩
                  have n0_ := Aside0.mk (Kd.R_below (ru HO_4.out) hb)
                  have n1_ := Aside0.mk (Kd.S_below (by (with_reducible repeat (first | apply Kd.S_alloc | apply Kd.S_drewN | apply Kd.S_drew)); exact HO_6.out) hb)
                  have n2_ := Aside0.mk (Kd.R_below (ru HO_7.out) hb)
                  have n3_ := Aside0.mk (Kd.R_below (ru HO_8.out) hb)
                  have n4_ := Aside0.mk (Kd.S_below (by (with_reducible repeat (first | apply Kd.S_alloc | apply Kd.S_drewN | apply Kd.S_drew)); exact HO_53.out) hb)
                  have n5_ := Aside0.mk (Kd.R_below (ru HL699_0.out) hb)
                  have n6_ := Aside0.mk (Kd.C_below (by repeat (first | (with_reducible exact HR699_0.out) | (with_reducible refine Kd.C_alloc ?_ _) | (with_reducible refine Kd.C_drewN ?_ _) | (with_reducible refine Kd.C_drew ?_) | exact HR699_0.out)) hb)
                  have n7_ := Aside0.mk (below_step (bw HB.out) hb)
                  clear HO_4
                  clear HO_6
                  clear HO_7
                  clear HO_8
                  clear HO_53
                  clear HL699_0
                  clear HR699_0
                  clear HB
                  have HO_4 := n0_
                  have HO_6 := n1_
                  have HO_7 := n2_
                  have HO_8 := n3_
                  have HO_53 := n4_
                  have HL699_0 := n5_
                  have HR699_0 := n6_
                  have HB := n7_
                  clear n0_ n1_ n2_ n3_ n4_ n5_ n6_ n7_
                  (try clear hb)
                  (try clear hb2)
                  (try clear hk)
                  (try clear hi)
                  have p702 : 0 ≤ (1 : Int) := (by omega)
                  have q702 : 1 < ((rd_L5 t678 x55_2).length : Int) := od
                  obtain ⟨ad702, e702, hx702_0⟩ := Kd.at_int (by repeat (first | (with_reducible exact HR699_0.out) | (with_reducible refine Kd.C_alloc ?_ _) | (with_reducible refine Kd.C_drewN ?_ _) | (with_reducible refine Kd.C_drew ?_) | exact HR699_0.out)) 1 p702 q702
                  obtain rfl : ad700 = ad702 := (by injection e702)
                  (try simp only [show (1 : Int).toNat = 1 from rfl, Nat.reduceMul, Nat.reduceEqDiff, Go.Addr.add, ↓reduceIte] at hx702_0)
                  have qi702 : (1 < (rd_L5 t678 x55_2).length) = True := eq_true (by omega)
                  (try rw [show ((1 : Int)).toNat = 1 from rfl] at hx702_0)
                  replace p702 := eq_true p702
                  replace q702 := eq_true q702
                  obtain ⟨Ao65, co65, eo65⟩ := Kd.R_slice HO_7.out
                  (first | subst eo65 | (injection eo65 with f1_ f2_ f3_; have f4_ := f1_.symm; have f5_ := f3_.symm; clear f1_ f2_ f3_; subst f4_; subst f5_))
                  have p704 : 0 ≤ (3 : Int) := (by omega)
                  have q704 : 3 < ((rd_L5 t678 x55_2).length : Int) := od
                  obtain ⟨ad704, e704, hx704_0⟩ := Kd.at_int (by repeat (first | (with_reducible exact HR699_0.out) | (with_reducible refine Kd.C_alloc ?_ _) | (with_reducible refine Kd.C_drewN ?_ _) | (with_reducible refine Kd.C_drew ?_) | exact HR699_0.out)) 3 p704 q704
                  obtain rfl : ad700 = ad704 := (by injection e704)
                  (try simp only [show (3 : Int).toNat = 3 from rfl, Nat.reduceMul, Nat.reduceEqDiff, Go.Addr.add, ↓reduceIte] at hx704_0)
                  have qi704 : (3 < (rd_L5 t678 x55_2).length) = True := eq_true (by omega)
                  (try rw [show ((3 : Int)).toNat = 3 from rfl] at hx704_0)
                  replace p704 := eq_true p704
                  replace q704 := eq_true q704
                  have p709 : 0 ≤ (3 : Int) := (by omega)
                  have q709 : 3 < ((rd_L5 t678 x55_2).length : Int) := od
                  obtain ⟨ad709, e709, hx709_0⟩ := Kd.at_int (by repeat (first | (with_reducible exact HR699_0.out) | (with_reducible refine Kd.C_alloc ?_ _) | (with_reducible refine Kd.C_drewN ?_ _) | (with_reducible refine Kd.C_drew ?_) | exact HR699_0.out)) 3 p709 q709
                  obtain rfl : ad700 = ad709 := (by injection e709)
                  (try simp only [show (3 : Int).toNat = 3 from rfl, Nat.reduceMul, Nat.reduceEqDiff, Go.Addr.add, ↓reduceIte] at hx709_0)
                  have qi709 : (3 < (rd_L5 t678 x55_2).length) = True := eq_true (by omega)
                  (try rw [show ((3 : Int)).toNat = 3 from rfl] at hx709_0)
                  replace p709 := eq_true p709
                  replace q709 := eq_true q709
                  refine hK.out _ _ ⟨HS0_, HS1_, HS2_, HS3_, HS4_, HS5_⟩ (fun hHeld => ?_)
                  clear hK K
                  refine norm_ (a' := ?_) ?_ ?_
                  rotate_left
                  ·show Act.put _ (some 66) _ = _
                   simp only [Act.put, List.setIfInBounds_toArray, List.set_cons_zero, List.set_cons_succ, i64_w, i32_w]
                   rfl
                  refine pA 7 (some 67) (bl 44 255) HT_ (h := ?_)
                  refine pA 8 (some 68) (bl 44 511) HT_ (h := ?_)
                  refine pA 9 (some 69) (bl 44 1023) HT_ (h := ?_)
                  refine pA 10 (some 70) (bl 44 2047) HT_ (h := ?_)
                  refine pA 12 (some 72) (bl 44 6143) HT_ (h := ?_)
                  refine pA 13 (some 73) (bl 44 14335) HT_ (h := ?_)
                  refine pA 14 (some 74) (bl 44 30719) HT_ (h := ?_)
                  refine tA 11 (some 71) (bl 44 32767) HT_ HW_ hHeld (h := ?_)
                  refine tA 15 (some 75) (bl 44 65535) HT_ HW_ hHeld (h := ?_)
                  refine pA 16 (some 76) (bl 44 131071) HT_ (h := ?_)
                  refine pA 17 (some 77) (bl 44 262143) HT_ (h := ?_)
                  refine pA 18 (some 78) (bl 44 524287) HT_ (h := ?_)
                  refine pA 19 (some 79) (bl 44 1048575) HT_ (h := ?_)
                  refine pA 20 (some 80) (bl 44 2097151) HT_ (h := ?_)
                  refine tA 21 (some 81) (bl 44 4194303) HT_ HW_ hHeld (h := ?_)
                  refine pA 22 (some 82) (bl 44 8388607) HT_ (h := ?_)
                  refine pA 23 (some 83) (bl 44 16777215) HT_ (h := ?_)
                  refine pO 24 (some 84) (bl 44 33554431) HT_ (h := ?_)
                  refine pO 25 (some 85) (bl 44 67108863) HT_ (h := ?_)
                  refine pO 26 (some 86) (bl 44 134217727) HT_ (h := ?_)
                  refine pO 27 (some 87) (bl 44 268435455) HT_ (h := ?_)
                  refine pO 28 (some 88) (bl 44 536870911) HT_ (h := ?_)
                  refine pO 29 (some 89) (bl 44 1073741823) HT_ (h := ?_)
                  refine pA 30 (some 90) (bl 44 2147483647) HT_ (h := ?_)
                  refine pA 31 (some 91) (bl 44 4294967295) HT_ (h := ?_)
                  refine pA 32 (some 92) (bl 44 8589934591) HT_ (h := ?_)
                  refine pA 33 (some 93) (bl 44 17179869183) HT_ (h := ?_)
                  refine pA 34 (some 94) (bl 44 34359738367) HT_ (h := ?_)
                  refine pA 37 (some 97) (bl 44 171798691839) HT_ (h := ?_)
                  refine pA 38 (some 98) (bl 44 446676598783) HT_ (h := ?_)
                  refine pA 39 (some 99) (bl 44 996432412671) HT_ (h := ?_)
                  refine tA 35 (some 95) (bl 44 1030792151039) HT_ HW_ hHeld (h := ?_)
                  refine pA 36 (some 96) (bl 44 1099511627775) HT_ (h := ?_)
                  refine tA 40 (some 100) (bl 44 2199023255551) HT_ HW_ hHeld (h := ?_)
                  refine pA 41 (some 101) (bl 44 4398046511103) HT_ (h := ?_)
                  refine pA 42 (some 102) (bl 44 8796093022207) HT_ (h := ?_)
                  refine pA 43 (some 103) (bl 44 17592186044415) HT_ (h := ?_)
                  refine done_ (done_of HT_.out (by kernel_rfl)) ?_
                  try go_wp2
                  go_roundg k2
                  case measure => have := HJ4.out; have := HK2.out; omega
                  case rel => exact ⟨(wrap64 (x55_2 + 1)), fs, H', ⟨by have := HJ4.out; have := HK2.out; omega⟩, ⟨ru HO_4.out⟩, ⟨by (with_reducible repeat (first | apply Kd.S_alloc | apply Kd.S_drewN | apply Kd.S_drew)); exact HO_6.out⟩, ⟨ru HO_7.out⟩, ⟨ru HO_8.out⟩, ⟨by (with_reducible repeat (first | apply Kd.S_alloc | apply Kd.S_drewN | apply Kd.S_drew)); exact HO_53.out⟩, ⟨bw HB.out⟩⟩
               ·rw [if_neg c42] at H
                exact absurd H (by simp)
              ·rw [if_neg c41] at H
               have c41b0 : ((rd (rd_L5 t678 x55_2) 1) == (rd t689 x55_2)) = false := beq_eq_false_iff_ne.mpr c41
               have c41b1 : ((rd (rd_L5 t678 x55_2) 1) != (rd t689 x55_2)) = true := bne_iff_ne.mpr c41
               obtain rfl := Option.some.inj H
               have p699 : 0 ≤ (x55_2 : Int) := od
               have q699 : x55_2 < (t678.length : Int) := od
               obtain ⟨ad699, A699_0, c699_0, e699, hx699_0, hl699_0, hi699_0⟩ := at_L5 (Kd.S_reads' HO_53.out).2.2 x55_2 p699 q699
               cases e699
               obtain ⟨ce699, hce699, hMe699, hcc699⟩ := Kd.S_get HO_53.out [] x55_2 p699 (by first | exact q699 | exact od | (have e_ := (Kd.S_reads' HO_53.out).1; omega))
               obtain ⟨ve699_0, rfl, ge699_0⟩ := hMe699
               have hv699_0 := hcc699 0 _ rfl
               rw [Nat.add_zero, show ((Kd.slice 3 (Kd.int .i64))).sz = 1 from rfl, Nat.mul_one] at hv699_0
               replace hv699_0 := Option.some.inj (hv699_0.symm.trans hx699_0)
               rw [hv699_0] at ge699_0
               have HL699_0 := Aside0.mk (show Kd.R (Kd.int .i64) 3 _ _ _ _ (rd_L5 t678 x55_2) from ge699_0)
               clear hv699_0 ge699_0
               clear hcc699 hce699
               have HR699_0 := Aside0.mk hi699_0
               have HC699_0 := Aside0.mk hl699_0
               clear hi699_0 hl699_0
               replace p699 := eq_true p699
               replace q699 := eq_true q699
               try go_wp2
               have n0_ := Aside0.mk (Kd.R_drew HO_4.out)
               have n1_ := Aside0.mk (Kd.S_drew HO_6.out)
               have n2_ := Aside0.mk (Kd.R_drew HO_7.out)
               have n3_ := Aside0.mk (Kd.R_drew HO_8.out)
               have n4_ := Aside0.mk (Kd.S_drew HO_53.out)
               have n5_ := Aside0.mk (Kd.R_drew HL699_0.out)
               have n6_ := Aside0.mk (Kd.C_drew HR699_0.out)
               have n7_ := Aside0.mk (below_drew1 HB.out)
               clear HO_4
               clear HO_6
               clear HO_7
               clear HO_8
               clear HO_53
               clear HL699_0
               clear HR699_0
               clear HB
               have HO_4 := n0_
               have HO_6 := n1_
               have HO_7 := n2_
               have HO_8 := n3_
               have HO_53 := n4_
               have HL699_0 := n5_
               have HR699_0 := n6_
               have HB := n7_
               clear n0_ n1_ n2_ n3_ n4_ n5_ n6_ n7_
               have p700 : 0 ≤ (0 : Int) := (by omega)
               have q700 : 0 < ((rd_L5 t678 x55_2).length : Int) := od
               obtain ⟨ad700, e700, hx700_0⟩ := Kd.at_int (by repeat (first | (with_reducible exact HR699_0.out) | (with_reducible refine Kd.C_alloc ?_ _) | (with_reducible refine Kd.C_drewN ?_ _) | (with_reducible refine Kd.C_drew ?_) | exact HR699_0.out)) 0 p700 q700
               cases e700
               have qi700 : (0 < (rd_L5 t678 x55_2).length) = True := eq_true (by omega)
               (try rw [show ((0 : Int)).toNat = 0 from rfl] at hx700_0)
               (try rw [Addr.add_zero'] at hx700_0)
               replace p700 := eq_true p700
               replace q700 := eq_true q700
               have p703 : 0 ≤ (x55_2 : Int) := od
               have q703 : x55_2 < (t689.length : Int) := od
               obtain ⟨Aoz6, coz6, eoz6⟩ := Kd.R_slice HO_7.out
               subst eoz6
               obtain ⟨ad703, e703, hx703_0⟩ := Kd.at_int (Kd.R_reads' HO_7.out).2.2 x55_2 p703 q703
               cases e703
               replace p703 := eq_true p703
               replace q703 := eq_true q703
               have p702 : 0 ≤ (1 : Int) := (by omega)
               have q702 : 1 < ((rd_L5 t678 x55_2).length : Int) := od
               obtain ⟨ad702, e702, hx702_0⟩ := Kd.at_int (by repeat (first | (with_reducible exact HR699_0.out) | (with_reducible refine Kd.C_alloc ?_ _) | (with_reducible refine Kd.C_drewN ?_ _) | (with_reducible refine Kd.C_drew ?_) | exact HR699_0.out)) 1 p702 q702
               obtain rfl : ad700 = ad702 := (by injection e702)
               (try simp only [show (1 : Int).toNat = 1 from rfl, Nat.reduceMul, Nat.reduceEqDiff, Go.Addr.add, ↓reduceIte] at hx702_0)
               have qi702 : (1 < (rd_L5 t678 x55_2).length) = True := eq_true (by omega)
               replace p702 := eq_true p702
               replace q702 := eq_true q702
               refine start_ (n := 44) (S := fun w' => w'.cell? ad700 = some (.int .i64 (rd (rd_L5 t678 x55_2) 0)) ∧ w'.cell? ⟨ad700.block, ad700.off + 1, none⟩ = some (.int .i64 (rd (rd_L5 t678 x55_2) 1)) ∧ w'.cell? (ad703.add (x55_2).toNat) = some (.int .i64 (rd t689 x55_2))) (ds := []) (bl 44 0) (by kernel_rfl) rfl (by kernel_rfl) ⟨hx700_0, hx702_0, hx703_0⟩ (fun hHeld => ?_); refine with_tabW laws_FnClaims.tab12 laws_FnClaims.bits12 (fun HT_ HW_ => ?_)
               generalize wr.drew = w66 at HO_4 HO_6 HO_7 HO_8 HO_53 HL699_0 HR699_0 HB hx700_0 hx703_0 hHeld ⊢
               refine pA 0 (some 60) (bl 44 1) HT_ (h := ?_)
               refine pA 1 (some 61) (bl 44 3) HT_ (h := ?_)
               refine pA 3 (some 63) (bl 44 11) HT_ (h := ?_)
               refine pA 4 (some 64) (bl 44 27) HT_ (h := ?_)
               refine pA 5 (some 65) (bl 44 59) HT_ (h := ?_)
               refine tA 2 (some 62) (bl 44 63) HT_ HW_ hHeld (h := ?_)
               refine one_ (i := 6) (N := some 66) (bl 44 127) rfl rfl (one_of HT_.out (by kernel_rfl)) (by decide) (fun K hK => ?_)
               refine goes_ Try.func41 (by kernel_rfl) rfl #[.int .i64 t673, .slice Ao7 t674.length co7, .int .i64 x55_2] (by rfl) rfl rfl (by (try simp only [List.map_toArray, List.map_cons, List.map_nil]); first | done | rfl | (simp only [List.length_drop, List.length_take]; rfl)) ?_
               with_reducible refine (impl_RootOf.calls k2 t673 _ _ t674 x55_2 t701 _ ?side1 ?side2 A37.out).mono ?_
               (case side1 => repeat (first | exact (Kd.R_reads' HO_4.out).2.2 | (with_reducible refine Kd.C_alloc ?_ _) | (with_reducible refine Kd.C_drewN ?_ _) | (with_reducible refine Kd.C_drew ?_)))
               (case side2 => exact (Kd.R_reads' HO_4.out).2.1)
               rintro e w67 ⟨rfl, hb⟩
               have HS0_ := (hb.cell (World.block_lt_of_cell? _ _ (hHeld.1))).trans (hHeld.1)
               have HS1_ := (hb.cell (World.block_lt_of_cell? _ _ (hHeld.2.1))).trans (hHeld.2.1)
               have HS2_ := (hb.cell (World.block_lt_of_cell? _ _ (hHeld.2.2))).trans (hHeld.2.2)
               refine ⟨_, rfl, ?_⟩
               have n0_ := Aside0.mk (Kd.R_below (ru HO_4.out) hb)
               have n1_ := Aside0.mk (Kd.S_below (by (with_reducible repeat (first | apply Kd.S_alloc | apply Kd.S_drewN | apply Kd.S_drew)); exact HO_6.out) hb)
               have n2_ := Aside0.mk (Kd.R_below (ru HO_7.out) hb)
               have n3_ := Aside0.mk (Kd.R_below (ru HO_8.out) hb)
               have n4_ := Aside0.mk (Kd.S_below (by (with_reducible repeat (first | apply Kd.S_alloc | apply Kd.S_drewN | apply Kd.S_drew)); exact HO_53.out) hb)
               have n5_ := Aside0.mk (Kd.R_below (ru HL699_0.out) hb)
               have n6_ := Aside0.mk (Kd.C_below (by repeat (first | (with_reducible exact HR699_0.out) | (with_reducible refine Kd.C_alloc ?_ _) | (with_reducible refine Kd.C_drewN ?_ _) | (with_reducible refine Kd.C_drew ?_) | exact HR699_0.out)) hb)
               have n7_ := Aside0.mk (below_step (bw HB.out) hb)
               clear HO_4
               clear HO_6
               clear HO_7
               clear HO_8
               clear HO_53
               clear HL699_0
               clear HR699_0
               clear HB
               have HO_4 := n0_
               have HO_6 := n1_
               have HO_7 := n2_
               have HO_8 := n3_
               have HO_53 := n4_
               have HL699_0 := n5_
               have HR699_0 := n6_
               have HB := n7_
               clear n0_ n1_ n2_ n3_ n4_ n5_ n6_ n7_
               (try clear hb)
               (try clear hb2)
               (try clear hk)
               (try clear hi)
               have p702 : 0 ≤ (1 : Int) := (by omega)
               have q702 : 1 < ((rd_L5 t678 x55_2).length : Int) := od
               obtain ⟨ad702, e702, hx702_0⟩ := Kd.at_int (by repeat (first | (with_reducible exact HR699_0.out) | (with_reducible refine Kd.C_alloc ?_ _) | (with_reducible refine Kd.C_drewN ?_ _) | (with_reducible refine Kd.C_drew ?_) | exact HR699_0.out)) 1 p702 q702
               obtain rfl : ad700 = ad702 := (by injection e702)
               (try simp only [show (1 : Int).toNat = 1 from rfl, Nat.reduceMul, Nat.reduceEqDiff, Go.Addr.add, ↓reduceIte] at hx702_0)
               have qi702 : (1 < (rd_L5 t678 x55_2).length) = True := eq_true (by omega)
               (try rw [show ((1 : Int)).toNat = 1 from rfl] at hx702_0)
               replace p702 := eq_true p702
               replace q702 := eq_true q702
               obtain ⟨Ao68, co68, eo68⟩ := Kd.R_slice HO_7.out
               (first | subst eo68 | (injection eo68 with f1_ f2_ f3_; have f4_ := f1_.symm; have f5_ := f3_.symm; clear f1_ f2_ f3_; subst f4_; subst f5_))
               refine hK.out _ _ ⟨HS0_, HS1_, HS2_⟩ (fun hHeld => ?_)
               clear hK K
               refine norm_ (a' := ?_) ?_ ?_
               rotate_left
               ·show Act.put _ (some 66) _ = _
                simp only [Act.put, List.setIfInBounds_toArray, List.set_cons_zero, List.set_cons_succ, i64_w, i32_w]
                rfl
               refine pA 7 (some 67) (bl 44 255) HT_ (h := ?_)
               refine pA 8 (some 68) (bl 44 511) HT_ (h := ?_)
               refine pA 9 (some 69) (bl 44 1023) HT_ (h := ?_)
               refine pA 10 (some 70) (bl 44 2047) HT_ (h := ?_)
               refine pA 12 (some 72) (bl 44 6143) HT_ (h := ?_)
               refine pA 13 (some 73) (bl 44 14335) HT_ (h := ?_)
               refine pA 14 (some 74) (bl 44 30719) HT_ (h := ?_)
               refine tA 11 (some 71) (bl 44 32767) HT_ HW_ hHeld (h := ?_)
               refine tA 15 (some 75) (bl 44 65535) HT_ HW_ hHeld (h := ?_)
               refine pA 16 (some 76) (bl 44 131071) HT_ (h := ?_)
               refine pA 17 (some 77) (bl 44 262143) HT_ (h := ?_)
               refine pA 18 (some 78) (bl 44 524287) HT_ (h := ?_)
               refine pO 19 (some 79) (bl 44 1048575) HT_ (h := ?_)
               refine pO 20 (some 80) (bl 44 2097151) HT_ (h := ?_)
               refine pO 21 (some 81) (bl 44 4194303) HT_ (h := ?_)
               refine pO 22 (some 82) (bl 44 8388607) HT_ (h := ?_)
               refine pO 23 (some 83) (bl 44 16777215) HT_ (h := ?_)
               refine pO 24 (some 84) (bl 44 33554431) HT_ (h := ?_)
               refine pO 25 (some 85) (bl 44 67108863) HT_ (h := ?_)
               refine pO 26 (some 86) (bl 44 134217727) HT_ (h := ?_)
               refine pO 27 (some 87) (bl 44 268435455) HT_ (h := ?_)
               refine pO 28 (some 88) (bl 44 536870911) HT_ (h := ?_)
               refine pO 29 (some 89) (bl 44 1073741823) HT_ (h := ?_)
               refine pO 30 (some 90) (bl 44 2147483647) HT_ (h := ?_)
               refine pA 31 (some 91) (bl 44 4294967295) HT_ (h := ?_)
               refine pA 32 (some 92) (bl 44 8589934591) HT_ (h := ?_)
               refine pO 33 (some 93) (bl 44 17179869183) HT_ (h := ?_)
               refine pO 34 (some 94) (bl 44 34359738367) HT_ (h := ?_)
               refine pO 35 (some 95) (bl 44 68719476735) HT_ (h := ?_)
               refine pO 36 (some 96) (bl 44 137438953471) HT_ (h := ?_)
               refine pO 37 (some 97) (bl 44 274877906943) HT_ (h := ?_)
               refine pO 38 (some 98) (bl 44 549755813887) HT_ (h := ?_)
               refine pO 39 (some 99) (bl 44 1099511627775) HT_ (h := ?_)
               refine pO 40 (some 100) (bl 44 2199023255551) HT_ (h := ?_)
               refine pO 41 (some 101) (bl 44 4398046511103) HT_ (h := ?_)
               refine pO 42 (some 102) (bl 44 8796093022207) HT_ (h := ?_)
               refine pA 43 (some 103) (bl 44 17592186044415) HT_ (h := ?_)
               refine done_ (done_of HT_.out (by kernel_rfl)) ?_
               try go_wp2
               go_ret
               exact ⟨fe, bw HB.out⟩
             ·rw [if_neg c40] at H
              exact absurd H (by simp)
            ·rw [if_neg c39] at H
             exact absurd H (by simp)
           ·rw [if_neg c38] at H
            have c38b0 : ((rd (rd_L5 t678 x55_2) 0) == t701) = false := beq_eq_false_iff_ne.mpr c38
            have c38b1 : ((rd (rd_L5 t678 x55_2) 0) != t701) = true := bne_iff_ne.mpr c38
            obtain rfl := Option.some.inj H
            have p699 : 0 ≤ (x55_2 : Int) := od
            have q699 : x55_2 < (t678.length : Int) := od
            obtain ⟨ad699, A699_0, c699_0, e699, hx699_0, hl699_0, hi699_0⟩ := at_L5 (Kd.S_reads' HO_53.out).2.2 x55_2 p699 q699
            cases e699
            obtain ⟨ce699, hce699, hMe699, hcc699⟩ := Kd.S_get HO_53.out [] x55_2 p699 (by first | exact q699 | exact od | (have e_ := (Kd.S_reads' HO_53.out).1; omega))
            obtain ⟨ve699_0, rfl, ge699_0⟩ := hMe699
            have hv699_0 := hcc699 0 _ rfl
            rw [Nat.add_zero, show ((Kd.slice 3 (Kd.int .i64))).sz = 1 from rfl, Nat.mul_one] at hv699_0
            replace hv699_0 := Option.some.inj (hv699_0.symm.trans hx699_0)
            rw [hv699_0] at ge699_0
            have HL699_0 := Aside0.mk (show Kd.R (Kd.int .i64) 3 _ _ _ _ (rd_L5 t678 x55_2) from ge699_0)
            clear hv699_0 ge699_0
            clear hcc699 hce699
            have HR699_0 := Aside0.mk hi699_0
            have HC699_0 := Aside0.mk hl699_0
            clear hi699_0 hl699_0
            replace p699 := eq_true p699
            replace q699 := eq_true q699
            try go_wp2
            have n0_ := Aside0.mk (Kd.R_drew HO_4.out)
            have n1_ := Aside0.mk (Kd.S_drew HO_6.out)
            have n2_ := Aside0.mk (Kd.R_drew HO_7.out)
            have n3_ := Aside0.mk (Kd.R_drew HO_8.out)
            have n4_ := Aside0.mk (Kd.S_drew HO_53.out)
            have n5_ := Aside0.mk (Kd.R_drew HL699_0.out)
            have n6_ := Aside0.mk (Kd.C_drew HR699_0.out)
            have n7_ := Aside0.mk (below_drew1 HB.out)
            clear HO_4
            clear HO_6
            clear HO_7
            clear HO_8
            clear HO_53
            clear HL699_0
            clear HR699_0
            clear HB
            have HO_4 := n0_
            have HO_6 := n1_
            have HO_7 := n2_
            have HO_8 := n3_
            have HO_53 := n4_
            have HL699_0 := n5_
            have HR699_0 := n6_
            have HB := n7_
            clear n0_ n1_ n2_ n3_ n4_ n5_ n6_ n7_
            have p700 : 0 ≤ (0 : Int) := (by omega)
            have q700 : 0 < ((rd_L5 t678 x55_2).length : Int) := od
            obtain ⟨ad700, e700, hx700_0⟩ := Kd.at_int (by repeat (first | (with_reducible exact HR699_0.out) | (with_reducible refine Kd.C_alloc ?_ _) | (with_reducible refine Kd.C_drewN ?_ _) | (with_reducible refine Kd.C_drew ?_) | exact HR699_0.out)) 0 p700 q700
            cases e700
            have qi700 : (0 < (rd_L5 t678 x55_2).length) = True := eq_true (by omega)
            (try rw [show ((0 : Int)).toNat = 0 from rfl] at hx700_0)
            (try rw [Addr.add_zero'] at hx700_0)
            replace p700 := eq_true p700
            replace q700 := eq_true q700
            refine start_ (n := 44) (S := fun w' => w'.cell? ad700 = some (.int .i64 (rd (rd_L5 t678 x55_2) 0))) (ds := []) (bl 44 0) (by kernel_rfl) rfl (by kernel_rfl) (hx700_0) (fun hHeld => ?_); refine with_tabW laws_FnClaims.tab12 laws_FnClaims.bits12 (fun HT_ HW_ => ?_)
            generalize wr.drew = w69 at HO_4 HO_6 HO_7 HO_8 HO_53 HL699_0 HR699_0 HB hx700_0 hHeld ⊢
            refine pA 0 (some 60) (bl 44 1) HT_ (h := ?_)
            refine pA 1 (some 61) (bl 44 3) HT_ (h := ?_)
            refine pA 3 (some 63) (bl 44 11) HT_ (h := ?_)
            refine pA 4 (some 64) (bl 44 27) HT_ (h := ?_)
            refine pA 5 (some 65) (bl 44 59) HT_ (h := ?_)
            refine tA 2 (some 62) (bl 44 63) HT_ HW_ hHeld (h := ?_)
            refine one_ (i := 6) (N := some 66) (bl 44 127) rfl rfl (one_of HT_.out (by kernel_rfl)) (by decide) (fun K hK => ?_)
            refine goes_ Try.func41 (by kernel_rfl) rfl #[.int .i64 t673, .slice Ao7 t674.length co7, .int .i64 x55_2] (by rfl) rfl rfl (by (try simp only [List.map_toArray, List.map_cons, List.map_nil]); first | done | rfl | (simp only [List.length_drop, List.length_take]; rfl)) ?_
            with_reducible refine (impl_RootOf.calls k2 t673 _ _ t674 x55_2 t701 _ ?side1 ?side2 A37.out).mono ?_
            (case side1 => repeat (first | exact (Kd.R_reads' HO_4.out).2.2 | (with_reducible refine Kd.C_alloc ?_ _) | (with_reducible refine Kd.C_drewN ?_ _) | (with_reducible refine Kd.C_drew ?_)))
            (case side2 => exact (Kd.R_reads' HO_4.out).2.1)
            rintro e w70 ⟨rfl, hb⟩
            have HS0_ := (hb.cell (World.block_lt_of_cell? _ _ (hHeld))).trans (hHeld)
            refine ⟨_, rfl, ?_⟩
            have n0_ := Aside0.mk (Kd.R_below (ru HO_4.out) hb)
            have n1_ := Aside0.mk (Kd.S_below (by (with_reducible repeat (first | apply Kd.S_alloc | apply Kd.S_drewN | apply Kd.S_drew)); exact HO_6.out) hb)
            have n2_ := Aside0.mk (Kd.R_below (ru HO_7.out) hb)
            have n3_ := Aside0.mk (Kd.R_below (ru HO_8.out) hb)
            have n4_ := Aside0.mk (Kd.S_below (by (with_reducible repeat (first | apply Kd.S_alloc | apply Kd.S_drewN | apply Kd.S_drew)); exact HO_53.out) hb)
            have n5_ := Aside0.mk (Kd.R_below (ru HL699_0.out) hb)
            have n6_ := Aside0.mk (Kd.C_below (by repeat (first | (with_reducible exact HR699_0.out) | (with_reducible refine Kd.C_alloc ?_ _) | (with_reducible refine Kd.C_drewN ?_ _) | (with_reducible refine Kd.C_drew ?_) | exact HR699_0.out)) hb)
            have n7_ := Aside0.mk (below_step (bw HB.out) hb)
            clear HO_4
            clear HO_6
            clear HO_7
            clear HO_8
            clear HO_53
            clear HL699_0
            clear HR699_0
            clear HB
            have HO_4 := n0_
            have HO_6 := n1_
            have HO_7 := n2_
            have HO_8 := n3_
            have HO_53 := n4_
            have HL699_0 := n5_
            have HR699_0 := n6_
            have HB := n7_
            clear n0_ n1_ n2_ n3_ n4_ n5_ n6_ n7_
            (try clear hb)
            (try clear hb2)
            (try clear hk)
            (try clear hi)
            refine hK.out _ _ (HS0_) (fun hHeld => ?_)
            clear hK K
            refine norm_ (a' := ?_) ?_ ?_
            rotate_left
            ·show Act.put _ (some 66) _ = _
             simp only [Act.put, List.setIfInBounds_toArray, List.set_cons_zero, List.set_cons_succ, i64_w, i32_w]
             rfl
            refine pA 7 (some 67) (bl 44 255) HT_ (h := ?_)
            refine pA 8 (some 68) (bl 44 511) HT_ (h := ?_)
            refine pO 9 (some 69) (bl 44 1023) HT_ (h := ?_)
            refine pO 10 (some 70) (bl 44 2047) HT_ (h := ?_)
            refine pO 11 (some 71) (bl 44 4095) HT_ (h := ?_)
            refine pO 12 (some 72) (bl 44 8191) HT_ (h := ?_)
            refine pO 13 (some 73) (bl 44 16383) HT_ (h := ?_)
            refine pO 14 (some 74) (bl 44 32767) HT_ (h := ?_)
            refine pO 15 (some 75) (bl 44 65535) HT_ (h := ?_)
            refine pO 16 (some 76) (bl 44 131071) HT_ (h := ?_)
            refine pA 17 (some 77) (bl 44 262143) HT_ (h := ?_)
            refine pA 18 (some 78) (bl 44 524287) HT_ (h := ?_)
            refine pO 19 (some 79) (bl 44 1048575) HT_ (h := ?_)
            refine pO 20 (some 80) (bl 44 2097151) HT_ (h := ?_)
            refine pO 21 (some 81) (bl 44 4194303) HT_ (h := ?_)
            refine pO 22 (some 82) (bl 44 8388607) HT_ (h := ?_)
            refine pO 23 (some 83) (bl 44 16777215) HT_ (h := ?_)
            refine pO 24 (some 84) (bl 44 33554431) HT_ (h := ?_)
            refine pO 25 (some 85) (bl 44 67108863) HT_ (h := ?_)
            refine pO 26 (some 86) (bl 44 134217727) HT_ (h := ?_)
            refine pO 27 (some 87) (bl 44 268435455) HT_ (h := ?_)
            refine pO 28 (some 88) (bl 44 536870911) HT_ (h := ?_)
            refine pO 29 (some 89) (bl 44 1073741823) HT_ (h := ?_)
            refine pO 30 (some 90) (bl 44 2147483647) HT_ (h := ?_)
            refine pA 31 (some 91) (bl 44 4294967295) HT_ (h := ?_)
            refine pA 32 (some 92) (bl 44 8589934591) HT_ (h := ?_)
            refine pO 33 (some 93) (bl 44 17179869183) HT_ (h := ?_)
            refine pO 34 (some 94) (bl 44 34359738367) HT_ (h := ?_)
            refine pO 35 (some 95) (bl 44 68719476735) HT_ (h := ?_)
            refine pO 36 (some 96) (bl 44 137438953471) HT_ (h := ?_)
            refine pO 37 (some 97) (bl 44 274877906943) HT_ (h := ?_)
            refine pO 38 (some 98) (bl 44 549755813887) HT_ (h := ?_)
            refine pO 39 (some 99) (bl 44 1099511627775) HT_ (h := ?_)
            refine pO 40 (some 100) (bl 44 2199023255551) HT_ (h := ?_)
            refine pO 41 (some 101) (bl 44 4398046511103) HT_ (h := ?_)
            refine pO 42 (some 102) (bl 44 8796093022207) HT_ (h := ?_)
            refine pA 43 (some 103) (bl 44 17592186044415) HT_ (h := ?_)
            refine done_ (done_of HT_.out (by kernel_rfl)) ?_
            try go_wp2
            go_ret
            exact ⟨fe, bw HB.out⟩
          ·rw [if_neg c36] at H
           exact absurd H (by simp)
         ·rw [if_neg c35] at H
          exact absurd H (by simp)
        ·rw [if_neg c34] at H
         exact absurd H (by simp)
       ·rw [if_neg c33] at H
        have c33b0 : decide (x55_2 < (t678.length : Int)) = false := decide_eq_false c33
        clear c33
        replace H := Option.bind_eq_some_iff.mp H
        obtain ⟨t695, A710, H⟩ := H
        try dsimp only at H
        have A71 := Aside0.mk A710
        clear A710
        replace H := Option.bind_eq_some_iff.mp H
        obtain ⟨t698, A720, H⟩ := H
        try dsimp only at H
        have A72 := Aside0.mk A720
        clear A720
        obtain rfl := Option.some.inj H
        go_wp2_with (first | ((with_reducible refine gate_callee (f := 47) rfl ?_); refine goesL_ (some 108) rfl rfl Try.func47 (by kernel_rfl) rfl #[.int .i64 t673, .slice Ao7 t674.length co7, .slice Ao32 t678.length co32] rfl (by (try simp only [List.map_toArray, List.map_cons, List.map_nil]); first | done | rfl | (simp only [List.length_drop, List.length_take]; rfl)) ?_; (with_reducible refine (impl_NextClaims.calls k2 t673 _ _ t674 _ _ t678 t695 _ ?side1 ?side2 ?side3 ?side4 A71.out).mono ?_); (case side1 => repeat (first | exact (Kd.R_reads' HO_4.out).2.2 | (with_reducible refine Kd.C_alloc ?_ _) | (with_reducible refine Kd.C_drewN ?_ _) | (with_reducible refine Kd.C_drew ?_))); (case side2 => exact (Kd.R_reads' HO_4.out).2.1); (case side3 => repeat (first | exact (Kd.S_reads' HO_6.out).2.2 | (with_reducible refine Kd.C_alloc ?_ _) | (with_reducible refine Kd.C_drewN ?_ _) | (with_reducible refine Kd.C_drew ?_))); (case side4 => exact (Kd.S_reads' HO_6.out).2.1); rintro e w73 ⟨v696, rfl, ho0, hb⟩; refine ⟨_, rfl, ?_⟩; have n0_ := Aside0.mk (Kd.R_below (ru HO_4.out) hb); have n1_ := Aside0.mk (Kd.S_elder' (by (with_reducible repeat (first | apply Kd.S_alloc | apply Kd.S_drewN | apply Kd.S_drew)); exact HO_6.out) (Kd.S_base ho0) hb); have n2_ := Aside0.mk (Kd.R_below (ru HO_7.out) hb); have n3_ := Aside0.mk (Kd.R_below (ru HO_8.out) hb); have n4_ := Aside0.mk (Kd.S_elder' (by (with_reducible repeat (first | apply Kd.S_alloc | apply Kd.S_drewN | apply Kd.S_drew)); exact HO_53.out) (Kd.S_base ho0) hb); have n5_ := Aside0.mk (Kd.S_lower (Kd.S_new' (Kd.S_new' (Kd.S_new' (Kd.S_new' ho0 (Kd.S_lt (by (with_reducible repeat (first | apply Kd.S_alloc | apply Kd.S_drewN | apply Kd.S_drew)); exact HO_6.out))) (Kd.R_lt (ru HO_7.out))) (Kd.R_lt (ru HO_8.out))) (Kd.S_lt (by (with_reducible repeat (first | apply Kd.S_alloc | apply Kd.S_drewN | apply Kd.S_drew)); exact HO_53.out))) (below_size (bw HB.out))); have n6_ := Aside0.mk (below_step (bw HB.out) hb); clear HO_4; clear HO_6; clear HO_7; clear HO_8; clear HO_53; clear HB; have HO_4 := n0_; have HO_6 := n1_; have HO_7 := n2_; have HO_8 := n3_; have HO_53 := n4_; have HO697 := n5_; have HB := n6_; clear n0_ n1_ n2_ n3_ n4_ n5_ n6_; (try clear hb); (try clear hb2); (try clear hk); (try clear hi); (try clear ho0); obtain ⟨Ao74, co74, eo74⟩ := Kd.S_slice HO697.out; subst eo74) | ((with_reducible refine gate_callee (f := 44) rfl ?_); refine goesL_ (some 110) rfl rfl Try.func44 (by kernel_rfl) rfl #[.slice Ao74 t695.length co74, .slice Ao32 t678.length co32] rfl (by (try simp only [List.map_toArray, List.map_cons, List.map_nil]); first | done | rfl | (simp only [List.length_drop, List.length_take]; rfl)) ?_; (with_reducible refine (laws_wnPairs.calls k2 _ _ t695 _ _ t678 t698 _ ?side1 ?side2 ?side3 ?side4 A72.out).mono ?_); (case side1 => repeat (first | exact (Kd.S_reads' HO697.out).2.2 | (with_reducible refine Kd.C_alloc ?_ _) | (with_reducible refine Kd.C_drewN ?_ _) | (with_reducible refine Kd.C_drew ?_))); (case side2 => exact (Kd.S_reads' HO697.out).2.1); (case side3 => repeat (first | exact (Kd.S_reads' HO_6.out).2.2 | (with_reducible refine Kd.C_alloc ?_ _) | (with_reducible refine Kd.C_drewN ?_ _) | (with_reducible refine Kd.C_drew ?_))); (case side4 => exact (Kd.S_reads' HO_6.out).2.1); rintro e w' ⟨rfl, ⟨nd, rfl⟩⟩; refine ⟨_, rfl, ?_⟩))
        go_ret
        exact ⟨fe, bw HB.out⟩

/-- THE ONE PURE STATEMENT of laws_FnClaims: yours. -/
def laws_FnClaims.Pure : Prop := ∀ (l0 : List Int), l0.length ≤ maxLen → l0.length * 1 ≤ 140737488351232 → (∀ x ∈ l0, (Lit.int .u8 x).wf = true) → ∃ k, laws_FnClaims.f k l0 = some true
theorem laws_FnClaims.walk (P : laws_FnClaims.Pure) (a0 : Option Addr) (len0 cap0 : Nat) (z0 : List Int) (w : World) (w0 : (a0 = none ∧ len0 = 0 ∧ cap0 = 0 ∧ z0 = []) ∨ ∃ x, a0 = some x ∧ len0 ≤ cap0 ∧ cap0 ≤ maxLen ∧ z0.length = cap0 ∧ (∀ i, i < z0.length → w.cell? (x.add i) = some (.int .u8 (z0.getD i 0))) ∧ ∀ n ∈ z0, (Lit.int .u8 n).wf = true) (y0 : len0 * 1 ≤ 140737488351232) :
  Calls Try.prog 7 #[.slice a0 len0 cap0] w fun e w' => e = .returned (.bool true) ∧ Below w.heap.size w w' := by
 obtain ⟨l0, rfl, hr0, hm0, hw0, hc0⟩ := ReadsInt.ofRowC w0
 obtain ⟨k, h⟩ := P l0 hm0 y0 hw0
 refine (laws_FnClaims.calls k _ _ l0 true w (Kd.C_of_reads (d := (0 : Int)) (h1 := fun _ => rfl) hr0) hc0 h).mono ?_
 rintro e w' ⟨rfl, hd⟩
 exact ⟨rfl, hd⟩

end Go.Proofs.Ytegnghbgkiddoaa.PA
