-- Laid by this session's own program (pr.py) over the translation; Lean checks it.
import Derived.Test.YtegnghbgkiddoaaPA0
import Derived.Test.YtegnghbgkiddoaaPA14
import Derived.Test.YtegnghbgkiddoaaPA15
import Derived.Test.YtegnghbgkiddoaaPA24
import Derived.Test.YtegnghbgkiddoaaPA26
import Derived.Test.YtegnghbgkiddoaaPA34
import Derived.Test.YtegnghbgkiddoaaPA35
import Derived.Test.YtegnghbgkiddoaaHSq
import Derived.Test.YtegnghbgkiddoaaHSq
namespace Go.Proofs.Ytegnghbgkiddoaa.PA
open Go.RowKit Go.Proofs.YtegnghbgkiddoaaW.PrintWords Go.Proofs.YtegnghbgkiddoaaW.PrintLast Go.Proofs.YtegnghbgkiddoaaW.PrintMore
attribute [local go_sem] max2_int min2_int max_two min_two max_three min_three max_four min_four   -- for this text's walks alone
set_option linter.unusedVariables false
set_option linter.unusedSimpArgs false

/-! ### spec_DrawWayUp: function 36 -/
-- IMPORT HSq
def spec_DrawWayUp.f (k : Nat) (l0 : List Int) : Option (Int × (List (S44)) × Int) := (spec_DrawRootOf.f k l0).bind fun bt491 => (some (bt491.1, bt491.2.1, bt491.2.2))
set_option maxHeartbeats 8000000 in
set_option maxRecDepth 100000 in
theorem spec_DrawWayUp.calls (k : Nat) (A0 : Option Addr) (c0 : Nat) (l0 : List Int) (r1 : Int) (r2 : List (S44)) (r3 : Int) (w : World) (hr0 : Kd.C (Kd.int .u8) w A0 l0.length l0) (hc0 : l0.length ≤ c0) (h : spec_DrawWayUp.f k l0 = some (r1, r2, r3)) :
  Calls Try.prog 36 #[.slice A0 l0.length c0] w fun e w' => ∃ v1_ : Value, e = .returned (.tuple #[.int .i64 r1, v1_, .int .i64 r3]) ∧ Kd.R k44 44 w' w.heap.size (fun _ => True) v1_ r2 ∧ Below w.heap.size w w' := by
 have HR0 := Aside0.mk hr0
 have HC0 := Aside0.mk hc0
 clear hr0 hc0
 have HB := Aside0.mk (Below.refl w.heap.size w)
 have H : ((spec_DrawRootOf.f k l0).bind fun bt491 => (some (bt491.1, bt491.2.1, bt491.2.2))) = some (r1, r2, r3) := h
 clear h
 replace H := Option.bind_eq_some_iff.mp H
 obtain ⟨⟨t491, t492, t493⟩, A20, H⟩ := H
 try dsimp only at H
 have A2 := Aside0.mk A20
 clear A20
 simp only [Option.some.injEq, Prod.mk.injEq] at H
 obtain ⟨rfl, rfl, rfl⟩ := H
 go_enter Try.func36, Try.ntmps36
 go_wp2_with (first | ((with_reducible refine gate_callee (f := 49) rfl ?_); refine goesL_ (some 6) rfl rfl Try.func49 (by kernel_rfl) rfl #[.slice A0 l0.length c0] rfl (by (try simp only [List.map_toArray, List.map_cons, List.map_nil]); first | done | rfl | (simp only [List.length_drop, List.length_take]; rfl)) ?_; (with_reducible refine (spec_DrawRootOf.calls k _ _ l0 t491 t492 t493 _ ?side1 ?side2 A2.out).mono ?_); (case side1 => repeat (first | exact HR0.out | (with_reducible refine Kd.C_alloc ?_ _) | (with_reducible refine Kd.C_drewN ?_ _) | (with_reducible refine Kd.C_drew ?_))); (case side2 => exact HC0.out); rintro e w3 ⟨v494, rfl, ho0, hb⟩; refine ⟨_, rfl, ?_⟩; have n0_ := Aside0.mk (Kd.R_lower ho0 (below_size (bw HB.out))); have n1_ := Aside0.mk (below_step (bw HB.out) hb); clear HB; have HO495 := n0_; have HB := n1_; clear n0_ n1_; (try clear hb); (try clear hb2); (try clear hk); (try clear hi); (try clear ho0)))
 go_ret3
 exact ⟨_, fe, ru HO495.out, bw HB.out⟩

/-! ### laws_FnWayUp: function 6 -/
-- IMPORT HSq
mutual
def laws_FnWayUp.j0 : Nat → Int → List (S44) → Int → List Int → Bool → Option (Bool)
 | 0, _, _, _, _, _ => none
 | k + 1, x3, x4, x5, x6, x38 => if x38 = true then ((spec_WayUp.f k x3 x4 x5).bind fun t551 => ((laws_wnInts.f k x6 t551).bind fun t554 => (some t554))) else ((impl_CostsOf.f k x3 x4).bind fun t555 => ((impl_TreeOf.f k x3 x4).bind fun t558 => (laws_FnWayUp.l0 k x3 x4 x5 x6 t555 t558 1)))
def laws_FnWayUp.l0 : Nat → Int → List (S44) → Int → List Int → List Int → List Int → Int → Option (Bool)
 | 0, _, _, _, _, _, _, _ => none
 | k + 1, x3, x4, x5, x6, x7, x8, x9 => if x9 < (x6.length : Int) then (laws_FnWayUp.l1 k x3 x4 x5 x6 x7 x8 x9 false x8 (x8.length : Int) 0) else (if 0 < (x6.length : Int) then (if (rd x6 0) = x5 then (if 0 ≤ (wrap64 ((x6.length : Int) - 1)) then (if (wrap64 ((x6.length : Int) - 1)) < (x6.length : Int) then ((impl_RootOf.f k x3 x4 x5).bind fun t563 => (some ((rd x6 (wrap64 ((x6.length : Int) - 1))) == t563))) else (none)) else (none)) else (some false)) else (none))
def laws_FnWayUp.l1 : Nat → Int → List (S44) → Int → List Int → List Int → List Int → Int → Bool → List Int → Int → Int → Option (Bool)
 | 0, _, _, _, _, _, _, _, _, _, _, _ => none
 | k + 1, x3, x4, x5, x6, x7, x8, x9, x10, x57, x58, x59 => if x59 < x58 then (if 0 ≤ x59 then (if x59 < (x57.length : Int) then (if 0 ≤ (rd x57 x59) then (if (rd x57 x59) < (x4.length : Int) then (if x10 = true then (laws_FnWayUp.l1 k x3 x4 x5 x6 x7 x8 x9 true x57 x58 (wrap64 (x59 + 1))) else (if 0 ≤ (wrap64 (x9 - 1)) then (if (wrap64 (x9 - 1)) < (x6.length : Int) then (if 0 ≤ x9 then (if x9 < (x6.length : Int) then (if (wrap64 (((rd_T44 x4 (rd x57 x59)).f0) + ((rd_T44 x4 (rd x57 x59)).f1))) = (wrap64 ((rd x6 (wrap64 (x9 - 1))) + (rd x6 x9))) then (if ((rd_T44 x4 (rd x57 x59)).f0) = (rd x6 x9) then (if 0 ≤ (rd x6 x9) then (if (rd x6 x9) < (x7.length : Int) then (if 0 ≤ (rd x6 (wrap64 (x9 - 1))) then (if (rd x6 (wrap64 (x9 - 1))) < (x7.length : Int) then (laws_FnWayUp.l1 k x3 x4 x5 x6 x7 x8 x9 ((wrap64 ((rd x7 (rd x6 x9)) + ((rd_T44 x4 (rd x57 x59)).f2))) == (rd x7 (rd x6 (wrap64 (x9 - 1))))) x57 x58 (wrap64 (x59 + 1))) else (none)) else (none)) else (none)) else (none)) else (if ((rd_T44 x4 (rd x57 x59)).f1) = (rd x6 x9) then (if 0 ≤ (rd x6 x9) then (if (rd x6 x9) < (x7.length : Int) then (if 0 ≤ (rd x6 (wrap64 (x9 - 1))) then (if (rd x6 (wrap64 (x9 - 1))) < (x7.length : Int) then (laws_FnWayUp.l1 k x3 x4 x5 x6 x7 x8 x9 ((wrap64 ((rd x7 (rd x6 x9)) + ((rd_T44 x4 (rd x57 x59)).f2))) == (rd x7 (rd x6 (wrap64 (x9 - 1))))) x57 x58 (wrap64 (x59 + 1))) else (none)) else (none)) else (none)) else (none)) else (laws_FnWayUp.l1 k x3 x4 x5 x6 x7 x8 x9 false x57 x58 (wrap64 (x59 + 1))))) else (laws_FnWayUp.l1 k x3 x4 x5 x6 x7 x8 x9 false x57 x58 (wrap64 (x59 + 1)))) else (none)) else (none)) else (none)) else (none))) else (none)) else (none)) else (none)) else (none)) else (if x10 = true then (laws_FnWayUp.l0 k x3 x4 x5 x6 x7 x8 (wrap64 (x9 + 1))) else (some false))
end
def laws_FnWayUp.f (k : Nat) (l0 : List Int) : Option (Bool) := if (l0.length : Int) > 1048576 then (some true) else ((spec_DrawWayUp.f k l0).bind fun bt539 => ((impl_WayUp.f k bt539.1 bt539.2.1 bt539.2.2).bind fun t544 => ((spec_WayUp.f k bt539.1 bt539.2.1 bt539.2.2).bind fun t547 => ((laws_wnInts.f k t544 t547).bind fun t550 => (if t550 = true then (laws_FnWayUp.j0 k bt539.1 bt539.2.1 bt539.2.2 t544 ((t544.length : Int) == 0)) else (laws_FnWayUp.j0 k bt539.1 bt539.2.1 bt539.2.2 t544 true))))))
def laws_FnWayUp.T17 : Bool × List (List Nat × List Nat) := (true, [([], []), ([0], [0]), ([1], [1]), ([2, 1], [1, 2]), ([1], [1]), ([4, 1], [1, 4]), ([3, 5, 1], [1, 3, 5]), ([1], [1]), ([1], [1]), ([8, 1], [1, 8]), ([7, 9, 1], [1, 7, 9]), ([10, 1], [1, 10]), ([1], [1]), ([1], [1]), ([12, 13, 1], [1, 12, 13]), ([14, 1], [1, 14]), ([11, 15, 1], [1, 11, 15]), ([6, 16, 1], [1, 6, 16]), ([17, 1, 1], [1, 17]), ([18], [18]), ([19, 18], [18, 19]), ([18], [18]), ([18], [18]), ([21, 22, 18], [18, 21, 22]), ([23, 18], [18, 23]), ([20, 24, 18], [18, 20, 24]), ([25, 18, 18], [18, 25]), ([26], [26]), ([27, 26], [26, 27]), ([26], [26]), ([26], [26]), ([29, 30, 26], [26, 29, 30]), ([31, 26], [26, 31]), ([28, 32, 26], [26, 28, 32]), ([26, 33, 18], [18, 26, 33]), ([18, 34, 1], [1, 18, 34]), ([35, 26, 1], [1, 35]), ([36], [36]), ([36], [36]), ([36], [36]), ([38, 39, 36], [36, 38, 39]), ([40, 36], [36, 40]), ([37, 41, 36], [36, 37, 41]), ([42, 36], [36, 42]), ([36], [36]), ([44, 36], [36, 44]), ([43, 45, 36], [36, 43, 45]), ([36], [36]), ([36], [36]), ([36], [36]), ([49, 36], [36, 49]), ([48, 50, 36], [36, 48, 50]), ([51, 36], [36, 51]), ([47, 52, 36], [36, 47, 52]), ([53, 36], [36, 53]), ([46, 54, 36], [36, 46, 54]), ([36, 55, 1], [1, 36, 55]), ([1, 56], [1, 56]), ([57, 36, 0, 1, 2, 3, 4, 5, 6, 7, 8, 9, 10, 11, 12, 13, 14, 15, 16, 17, 18, 19, 20, 21, 22, 23, 24, 25, 26, 27, 28, 29, 30, 31, 32, 33, 34, 35, 36, 37, 38, 39, 40, 41, 42, 43, 44, 45, 46, 47, 48, 49, 50, 51, 52, 53, 54, 55, 56, 57], [0, 57])])
def laws_FnWayUp.B17 : List Nat := [0, 1, 3, 7, 3, 19, 63, 3, 3, 259, 899, 1923, 3, 3, 12291, 28675, 65411, 131071, 262143, 524287, 1048575, 524287, 524287, 6815743, 15204351, 33554431, 67108863, 134217727, 268435455, 134217727, 134217727, 1744830463, 3892314111, 8589934591, 17179869183, 34359738367, 68719476735, 137438953471, 137438953471, 137438953471, 962072674303, 2061584302079, 4398046511103, 8796093022207, 137438953471, 17729624997887, 70368744177663, 137438953471, 137438953471, 137438953471, 563087392374783, 1970462275928063, 4222262089613311, 8866599205339135, 17873798460080127, 36028797018963967, 72057594037927935, 144115188075855871, 288230376151711743]
theorem laws_FnWayUp.tab17 : rtab .any (opsOf Try.f6 17) = laws_FnWayUp.T17 := by kernel_rfl
theorem laws_FnWayUp.bits17 : waitsOk laws_FnWayUp.T17.2 laws_FnWayUp.B17 = true := by kernel_rfl
def laws_FnWayUp.T21 : Bool × List (List Nat × List Nat) := (true, [([], []), ([0], [0]), ([1], [1]), ([], []), ([2, 3], [2, 3]), ([4], [4]), ([5], [5]), ([5], [5]), ([7, 5], [5, 7]), ([8, 5], [5, 8]), ([6, 9, 5], [5, 6, 9]), ([10, 5], [5, 10]), ([5], [5]), ([5], [5]), ([5], [5]), ([12, 13, 14, 5, 5], [5, 12, 13, 14]), ([11, 15, 5], [5, 11, 15]), ([5, 16], [5, 16]), ([17, 15, 0, 1, 2, 3, 4, 5, 6, 7, 8, 9, 10, 11, 12, 13, 14, 15, 16, 17], [17])])
def laws_FnWayUp.B21 : List Nat := [0, 1, 3, 0, 15, 31, 63, 63, 191, 447, 1023, 2047, 63, 63, 63, 28735, 65535, 131071, 262143]
theorem laws_FnWayUp.tab21 : rtab .any (opsOf Try.f6 21) = laws_FnWayUp.T21 := by kernel_rfl
theorem laws_FnWayUp.bits21 : waitsOk laws_FnWayUp.T21.2 laws_FnWayUp.B21 = true := by kernel_rfl
set_option maxHeartbeats 8000000 in
set_option maxRecDepth 100000 in
theorem laws_FnWayUp.calls (k : Nat) (A0 : Option Addr) (c0 : Nat) (l0 : List Int) (r : Bool) (w : World) (hr0 : Kd.C (Kd.int .u8) w A0 l0.length l0) (hc0 : l0.length ≤ c0) (h : laws_FnWayUp.f k l0 = some r) :
  Calls Try.prog 6 #[.slice A0 l0.length c0] w fun e w' => e = .returned (.bool r) ∧ Below w.heap.size w w' := by
 have hu44 := Try.underlying44
 have HR0 := Aside0.mk hr0
 have HC0 := Aside0.mk hc0
 clear hr0 hc0
 have HB := Aside0.mk (Below.refl w.heap.size w)
 have H : (if (l0.length : Int) > 1048576 then (some true) else ((spec_DrawWayUp.f k l0).bind fun bt539 => ((impl_WayUp.f k bt539.1 bt539.2.1 bt539.2.2).bind fun t544 => ((spec_WayUp.f k bt539.1 bt539.2.1 bt539.2.2).bind fun t547 => ((laws_wnInts.f k t544 t547).bind fun t550 => (if t550 = true then (laws_FnWayUp.j0 k bt539.1 bt539.2.1 bt539.2.2 t544 ((t544.length : Int) == 0)) else (laws_FnWayUp.j0 k bt539.1 bt539.2.1 bt539.2.2 t544 true))))))) = some r := h
 clear h
 by_cases c2 : (l0.length : Int) > 1048576
 ·rw [if_pos c2] at H
  have c2b0 : decide (1048576 < (l0.length : Int)) = true := decide_eq_true c2
  have c2b1 : decide (1048576 < l0.length) = true := decide_eq_true (by omega)
  clear c2
  obtain rfl := Option.some.inj H
  go_enter Try.func6, Try.ntmps6
  go_wp2
  go_ret
  exact ⟨fe, bw HB.out⟩
 ·rw [if_neg c2] at H
  have c2b0 : decide (1048576 < (l0.length : Int)) = false := decide_eq_false c2
  have c2b1 : decide (1048576 < l0.length) = false := decide_eq_false (by omega)
  clear c2
  replace H := Option.bind_eq_some_iff.mp H
  obtain ⟨⟨t539, t540, t541⟩, A30, H⟩ := H
  try dsimp only at H
  have A3 := Aside0.mk A30
  clear A30
  replace H := Option.bind_eq_some_iff.mp H
  obtain ⟨t544, A40, H⟩ := H
  try dsimp only at H
  have A4 := Aside0.mk A40
  clear A40
  have HC5 := Aside0.mk H
  clear H
  go_enter Try.func6, Try.ntmps6
  go_upto_region 5 with (first | ((with_reducible refine gate_callee (f := 36) rfl ?_); refine goesL_ (some 19) rfl rfl Try.func36 (by kernel_rfl) rfl #[.slice A0 l0.length c0] rfl (by (try simp only [List.map_toArray, List.map_cons, List.map_nil]); first | done | rfl | (simp only [List.length_drop, List.length_take]; rfl)) ?_; (with_reducible refine (spec_DrawWayUp.calls k _ _ l0 t539 t540 t541 _ ?side1 ?side2 A3.out).mono ?_); (case side1 => repeat (first | exact HR0.out | (with_reducible refine Kd.C_alloc ?_ _) | (with_reducible refine Kd.C_drewN ?_ _) | (with_reducible refine Kd.C_drew ?_))); (case side2 => exact HC0.out); rintro e w6 ⟨v542, rfl, ho0, hb⟩; refine ⟨_, rfl, ?_⟩; have n0_ := Aside0.mk (Kd.R_lower ho0 (below_size (bw HB.out))); have n1_ := Aside0.mk (below_step (bw HB.out) hb); clear HB; have HO543 := n0_; have HB := n1_; clear n0_ n1_; (try clear hb); (try clear hb2); (try clear hk); (try clear hi); (try clear ho0); obtain ⟨Ao7, co7, eo7⟩ := Kd.R_slice HO543.out; subst eo7) | ((with_reducible refine gate_callee (f := 37) rfl ?_); refine goesL_ (some 26) rfl rfl Try.func37 (by kernel_rfl) rfl #[.int .i64 t539, .slice Ao7 t540.length co7, .int .i64 t541] rfl (by (try simp only [List.map_toArray, List.map_cons, List.map_nil]); first | done | rfl | (simp only [List.length_drop, List.length_take]; rfl)) ?_; (with_reducible refine (impl_WayUp.calls k t539 _ _ t540 t541 t544 _ ?side1 ?side2 A4.out).mono ?_); (case side1 => repeat (first | exact (Kd.R_reads' HO543.out).2.2 | (with_reducible refine Kd.C_alloc ?_ _) | (with_reducible refine Kd.C_drewN ?_ _) | (with_reducible refine Kd.C_drew ?_))); (case side2 => exact (Kd.R_reads' HO543.out).2.1); rintro e w8 ⟨v545, rfl, ho0, hb⟩; refine ⟨_, rfl, ?_⟩; have n0_ := Aside0.mk (Kd.R_below (ru HO543.out) hb); have n1_ := Aside0.mk (Kd.R_lower ho0 (below_size (bw HB.out))); have n2_ := Aside0.mk (below_step (bw HB.out) hb); clear HO543; clear HB; have HO543 := n0_; have HO546 := n1_; have HB := n2_; clear n0_ n1_ n2_; (try clear hb); (try clear hb2); (try clear hk); (try clear hi); (try clear ho0)))
  (try simp only [Act.put, List.setIfInBounds_toArray, List.set_cons_zero, List.set_cons_succ])
  go_cut [38] (fun v38 wc => ∃ (kq : Nat) (x38_4 : Bool), v38 = .bool x38_4 ∧ Aside0 (laws_FnWayUp.j0 kq t539 t540 t541 t544 x38_4 = some r) ∧ Aside0 (kq ≤ k) ∧ Aside0 (Kd.R k44 44 wc w.heap.size (fun _ => True) (.slice Ao7 t540.length co7) t540) ∧ Aside0 (Kd.R (Kd.int .i64) 3 wc w.heap.size (fun _ => True) v545 t544) ∧ Aside0 (Below w.heap.size w wc))
  case first =>
   have H := HC5.out
   clear HC5
   replace H := Option.bind_eq_some_iff.mp H
   obtain ⟨t547, A90, H⟩ := H
   try dsimp only at H
   have A9 := Aside0.mk A90
   clear A90
   replace H := Option.bind_eq_some_iff.mp H
   obtain ⟨t550, A100, H⟩ := H
   try dsimp only at H
   have A10 := Aside0.mk A100
   clear A100
   by_cases c11 : t550 = true
   ·subst c11
    rw [if_pos rfl] at H
    have H' := Aside0.mk H
    clear H
    go_wp2_with (first | ((with_reducible refine gate_callee (f := 39) rfl ?_); refine goesL_ (some 31) rfl rfl Try.func39 (by kernel_rfl) rfl #[.int .i64 t539, .slice Ao7 t540.length co7, .int .i64 t541] rfl (by (try simp only [List.map_toArray, List.map_cons, List.map_nil]); first | done | rfl | (simp only [List.length_drop, List.length_take]; rfl)) ?_; (with_reducible refine (spec_WayUp.calls k t539 _ _ t540 t541 t547 _ ?side1 ?side2 A9.out).mono ?_); (case side1 => repeat (first | exact (Kd.R_reads' HO543.out).2.2 | (with_reducible refine Kd.C_alloc ?_ _) | (with_reducible refine Kd.C_drewN ?_ _) | (with_reducible refine Kd.C_drew ?_))); (case side2 => exact (Kd.R_reads' HO543.out).2.1); rintro e w12 ⟨v548, rfl, ho0, hb⟩; refine ⟨_, rfl, ?_⟩; have n0_ := Aside0.mk (Kd.R_below (ru HO543.out) hb); have n1_ := Aside0.mk (Kd.R_elder' (ru HO546.out) (Kd.R_base ho0) hb); have n2_ := Aside0.mk (Kd.R_lower (Kd.R_new' ho0 (Kd.R_lt (ru HO546.out))) (below_size (bw HB.out))); have n3_ := Aside0.mk (below_step (bw HB.out) hb); clear HO543; clear HO546; clear HB; have HO543 := n0_; have HO546 := n1_; have HO549 := n2_; have HB := n3_; clear n0_ n1_ n2_ n3_; (try clear hb); (try clear hb2); (try clear hk); (try clear hi); (try clear ho0); obtain ⟨Ao13, co13, eo13⟩ := Kd.R_slice HO546.out; subst eo13; obtain ⟨Ao14, co14, eo14⟩ := Kd.R_slice HO549.out; subst eo14) | ((with_reducible refine gate_callee (f := 38) rfl ?_); refine goesL_ (some 32) rfl rfl Try.func38 (by kernel_rfl) rfl #[.slice Ao13 t544.length co13, .slice Ao14 t547.length co14] rfl (by (try simp only [List.map_toArray, List.map_cons, List.map_nil]); first | done | rfl | (simp only [List.length_drop, List.length_take]; rfl)) ?_; (with_reducible refine (laws_wnInts.calls k _ _ t544 _ _ t547 true _ ?side1 ?side2 ?side3 ?side4 A10.out).mono ?_); (case side1 => repeat (first | exact (Kd.R_reads' HO546.out).2.2 | (with_reducible refine Kd.C_alloc ?_ _) | (with_reducible refine Kd.C_drewN ?_ _) | (with_reducible refine Kd.C_drew ?_))); (case side2 => exact (Kd.R_reads' HO546.out).2.1); (case side3 => repeat (first | exact (Kd.R_reads' HO549.out).2.2 | (with_reducible refine Kd.C_alloc ?_ _) | (with_reducible refine Kd.C_drewN ?_ _) | (with_reducible refine Kd.C_drew ?_))); (case side4 => exact (Kd.R_reads' HO549.out).2.1); rintro e w' ⟨rfl, ⟨nd, rfl⟩⟩; refine ⟨_, rfl, ?_⟩))
    go_meet
    case rel => exact ⟨_, (((t544.length : Int) == 0)), fs, H', ⟨by first | omega | exact Nat.le_refl _⟩, ⟨ru HO543.out⟩, ⟨by (with_reducible repeat (first | apply Kd.R_alloc | apply Kd.R_drewN | apply Kd.R_drew)); exact Kd.R_mono HO546.out (fun _ hk => trivial)⟩, ⟨bw HB.out⟩⟩
   ·replace c11 := Bool.eq_false_iff.mpr c11
    subst c11
    rw [if_neg (show ¬ (false = true) by decide)] at H
    have H' := Aside0.mk H
    clear H
    go_wp2_with (first | ((with_reducible refine gate_callee (f := 39) rfl ?_); refine goesL_ (some 31) rfl rfl Try.func39 (by kernel_rfl) rfl #[.int .i64 t539, .slice Ao7 t540.length co7, .int .i64 t541] rfl (by (try simp only [List.map_toArray, List.map_cons, List.map_nil]); first | done | rfl | (simp only [List.length_drop, List.length_take]; rfl)) ?_; (with_reducible refine (spec_WayUp.calls k t539 _ _ t540 t541 t547 _ ?side1 ?side2 A9.out).mono ?_); (case side1 => repeat (first | exact (Kd.R_reads' HO543.out).2.2 | (with_reducible refine Kd.C_alloc ?_ _) | (with_reducible refine Kd.C_drewN ?_ _) | (with_reducible refine Kd.C_drew ?_))); (case side2 => exact (Kd.R_reads' HO543.out).2.1); rintro e w15 ⟨v548, rfl, ho0, hb⟩; refine ⟨_, rfl, ?_⟩; have n0_ := Aside0.mk (Kd.R_below (ru HO543.out) hb); have n1_ := Aside0.mk (Kd.R_elder' (ru HO546.out) (Kd.R_base ho0) hb); have n2_ := Aside0.mk (Kd.R_lower (Kd.R_new' ho0 (Kd.R_lt (ru HO546.out))) (below_size (bw HB.out))); have n3_ := Aside0.mk (below_step (bw HB.out) hb); clear HO543; clear HO546; clear HB; have HO543 := n0_; have HO546 := n1_; have HO549 := n2_; have HB := n3_; clear n0_ n1_ n2_ n3_; (try clear hb); (try clear hb2); (try clear hk); (try clear hi); (try clear ho0); obtain ⟨Ao16, co16, eo16⟩ := Kd.R_slice HO546.out; subst eo16; obtain ⟨Ao17, co17, eo17⟩ := Kd.R_slice HO549.out; subst eo17) | ((with_reducible refine gate_callee (f := 38) rfl ?_); refine goesL_ (some 32) rfl rfl Try.func38 (by kernel_rfl) rfl #[.slice Ao16 t544.length co16, .slice Ao17 t547.length co17] rfl (by (try simp only [List.map_toArray, List.map_cons, List.map_nil]); first | done | rfl | (simp only [List.length_drop, List.length_take]; rfl)) ?_; (with_reducible refine (laws_wnInts.calls k _ _ t544 _ _ t547 false _ ?side1 ?side2 ?side3 ?side4 A10.out).mono ?_); (case side1 => repeat (first | exact (Kd.R_reads' HO546.out).2.2 | (with_reducible refine Kd.C_alloc ?_ _) | (with_reducible refine Kd.C_drewN ?_ _) | (with_reducible refine Kd.C_drew ?_))); (case side2 => exact (Kd.R_reads' HO546.out).2.1); (case side3 => repeat (first | exact (Kd.R_reads' HO549.out).2.2 | (with_reducible refine Kd.C_alloc ?_ _) | (with_reducible refine Kd.C_drewN ?_ _) | (with_reducible refine Kd.C_drew ?_))); (case side4 => exact (Kd.R_reads' HO549.out).2.1); rintro e w' ⟨rfl, ⟨nd, rfl⟩⟩; refine ⟨_, rfl, ?_⟩))
    go_meet
    case rel => exact ⟨_, (true), fs, H', ⟨by first | omega | exact Nat.le_refl _⟩, ⟨ru HO543.out⟩, ⟨by (with_reducible repeat (first | apply Kd.R_alloc | apply Kd.R_drewN | apply Kd.R_drew)); exact Kd.R_mono HO546.out (fun _ hk => trivial)⟩, ⟨bw HB.out⟩⟩
  case rest =>
   clear HC5
   try clear c1
   try clear c2
   try clear c2b0
   try clear c2b1
   try clear p2
   try clear c3
   try clear c6
   try clear c11
   obtain ⟨kq, x38_4, rfl, HA, HJ4, HO_4, HO_6, HB⟩ := hcut
   cases kq with
   | zero => exact absurd HA.out (by simp [laws_FnWayUp.j0])
   | succ kj4 =>
    have H := HA.out
    clear HA
    simp only [laws_FnWayUp.j0] at H
    by_cases c18 : x38_4 = true
    ·subst c18
     rw [if_pos rfl] at H
     replace H := Option.bind_eq_some_iff.mp H
     obtain ⟨t551, A190, H⟩ := H
     try dsimp only at H
     have A19 := Aside0.mk A190
     clear A190
     replace H := Option.bind_eq_some_iff.mp H
     obtain ⟨t554, A200, H⟩ := H
     try dsimp only at H
     have A20 := Aside0.mk A200
     clear A200
     obtain rfl := Option.some.inj H
     go_wp2_with (first | ((with_reducible refine gate_callee (f := 39) rfl ?_); refine goesL_ (some 43) rfl rfl Try.func39 (by kernel_rfl) rfl #[.int .i64 t539, .slice Ao7 t540.length co7, .int .i64 t541] rfl (by (try simp only [List.map_toArray, List.map_cons, List.map_nil]); first | done | rfl | (simp only [List.length_drop, List.length_take]; rfl)) ?_; (with_reducible refine (spec_WayUp.calls kj4 t539 _ _ t540 t541 t551 _ ?side1 ?side2 A19.out).mono ?_); (case side1 => repeat (first | exact (Kd.R_reads' HO_4.out).2.2 | (with_reducible refine Kd.C_alloc ?_ _) | (with_reducible refine Kd.C_drewN ?_ _) | (with_reducible refine Kd.C_drew ?_))); (case side2 => exact (Kd.R_reads' HO_4.out).2.1); rintro e w21 ⟨v552, rfl, ho0, hb⟩; refine ⟨_, rfl, ?_⟩; have n0_ := Aside0.mk (Kd.R_below (ru HO_4.out) hb); have n1_ := Aside0.mk (Kd.R_elder' (ru HO_6.out) (Kd.R_base ho0) hb); have n2_ := Aside0.mk (Kd.R_lower (Kd.R_new' ho0 (Kd.R_lt (ru HO_6.out))) (below_size (bw HB.out))); have n3_ := Aside0.mk (below_step (bw HB.out) hb); clear HO_4; clear HO_6; clear HB; have HO_4 := n0_; have HO_6 := n1_; have HO553 := n2_; have HB := n3_; clear n0_ n1_ n2_ n3_; (try clear hb); (try clear hb2); (try clear hk); (try clear hi); (try clear ho0); obtain ⟨Ao22, co22, eo22⟩ := Kd.R_slice HO_6.out; subst eo22; obtain ⟨Ao23, co23, eo23⟩ := Kd.R_slice HO553.out; subst eo23) | ((with_reducible refine gate_callee (f := 38) rfl ?_); refine goesL_ (some 44) rfl rfl Try.func38 (by kernel_rfl) rfl #[.slice Ao22 t544.length co22, .slice Ao23 t551.length co23] rfl (by (try simp only [List.map_toArray, List.map_cons, List.map_nil]); first | done | rfl | (simp only [List.length_drop, List.length_take]; rfl)) ?_; (with_reducible refine (laws_wnInts.calls kj4 _ _ t544 _ _ t551 t554 _ ?side1 ?side2 ?side3 ?side4 A20.out).mono ?_); (case side1 => repeat (first | exact (Kd.R_reads' HO_6.out).2.2 | (with_reducible refine Kd.C_alloc ?_ _) | (with_reducible refine Kd.C_drewN ?_ _) | (with_reducible refine Kd.C_drew ?_))); (case side2 => exact (Kd.R_reads' HO_6.out).2.1); (case side3 => repeat (first | exact (Kd.R_reads' HO553.out).2.2 | (with_reducible refine Kd.C_alloc ?_ _) | (with_reducible refine Kd.C_drewN ?_ _) | (with_reducible refine Kd.C_drew ?_))); (case side4 => exact (Kd.R_reads' HO553.out).2.1); rintro e w' ⟨rfl, ⟨nd, rfl⟩⟩; refine ⟨_, rfl, ?_⟩))
     go_ret
     exact ⟨fe, bw HB.out⟩
    ·replace c18 := Bool.eq_false_iff.mpr c18
     subst c18
     rw [if_neg (show ¬ (false = true) by decide)] at H
     replace H := Option.bind_eq_some_iff.mp H
     obtain ⟨t555, A240, H⟩ := H
     try dsimp only at H
     have A24 := Aside0.mk A240
     clear A240
     replace H := Option.bind_eq_some_iff.mp H
     obtain ⟨t558, A250, H⟩ := H
     try dsimp only at H
     have A25 := Aside0.mk A250
     clear A250
     have H' := Aside0.mk H
     clear H
     go_wp2_with (first | ((with_reducible refine gate_callee (f := 40) rfl ?_); refine goesL_ (some 47) rfl rfl Try.func40 (by kernel_rfl) rfl #[.int .i64 t539, .slice Ao7 t540.length co7] rfl (by (try simp only [List.map_toArray, List.map_cons, List.map_nil]); first | done | rfl | (simp only [List.length_drop, List.length_take]; rfl)) ?_; (with_reducible refine (impl_CostsOf.calls kj4 t539 _ _ t540 t555 _ ?side1 ?side2 A24.out).mono ?_); (case side1 => repeat (first | exact (Kd.R_reads' HO_4.out).2.2 | (with_reducible refine Kd.C_alloc ?_ _) | (with_reducible refine Kd.C_drewN ?_ _) | (with_reducible refine Kd.C_drew ?_))); (case side2 => exact (Kd.R_reads' HO_4.out).2.1); rintro e w26 ⟨v556, rfl, ho0, hb⟩; refine ⟨_, rfl, ?_⟩; have n0_ := Aside0.mk (Kd.R_below (ru HO_4.out) hb); have n1_ := Aside0.mk (Kd.R_elder' (ru HO_6.out) (Kd.R_base ho0) hb); have n2_ := Aside0.mk (Kd.R_lower (Kd.R_new' ho0 (Kd.R_lt (ru HO_6.out))) (below_size (bw HB.out))); have n3_ := Aside0.mk (below_step (bw HB.out) hb); clear HO_4; clear HO_6; clear HB; have HO_4 := n0_; have HO_6 := n1_; have HO557 := n2_; have HB := n3_; clear n0_ n1_ n2_ n3_; (try clear hb); (try clear hb2); (try clear hk); (try clear hi); (try clear ho0)) | ((with_reducible refine gate_callee (f := 23) rfl ?_); refine goesL_ (some 50) rfl rfl Try.func23 (by kernel_rfl) rfl #[.int .i64 t539, .slice Ao7 t540.length co7] rfl (by (try simp only [List.map_toArray, List.map_cons, List.map_nil]); first | done | rfl | (simp only [List.length_drop, List.length_take]; rfl)) ?_; (with_reducible refine (impl_TreeOf.calls kj4 t539 _ _ t540 t558 _ ?side1 ?side2 A25.out).mono ?_); (case side1 => repeat (first | exact (Kd.R_reads' HO_4.out).2.2 | (with_reducible refine Kd.C_alloc ?_ _) | (with_reducible refine Kd.C_drewN ?_ _) | (with_reducible refine Kd.C_drew ?_))); (case side2 => exact (Kd.R_reads' HO_4.out).2.1); rintro e w27 ⟨v559, rfl, ho0, hb⟩; refine ⟨_, rfl, ?_⟩; have n0_ := Aside0.mk (Kd.R_below (ru HO_4.out) hb); have n1_ := Aside0.mk (Kd.R_elder' (ru HO_6.out) (Kd.R_base ho0) hb); have n2_ := Aside0.mk (Kd.R_elder' (ru HO557.out) (Kd.R_base ho0) hb); have n3_ := Aside0.mk (Kd.R_lower (Kd.R_new' (Kd.R_new' ho0 (Kd.R_lt (ru HO_6.out))) (Kd.R_lt (ru HO557.out))) (below_size (bw HB.out))); have n4_ := Aside0.mk (below_step (bw HB.out) hb); clear HO_4; clear HO_6; clear HO557; clear HB; have HO_4 := n0_; have HO_6 := n1_; have HO557 := n2_; have HO560 := n3_; have HB := n4_; clear n0_ n1_ n2_ n3_ n4_; (try clear hb); (try clear hb2); (try clear hk); (try clear hi); (try clear ho0)))
     go_loopg [9] kj4 (fun kq v9 w' => ∃ (x9_2 : Int), v9 = .int .i64 x9_2 ∧ Aside0 (laws_FnWayUp.l0 kq t539 t540 t541 t544 t555 t558 x9_2 = some r) ∧ Aside0 (kq ≤ kj4) ∧ Aside0 (Kd.R k44 44 w' w.heap.size (fun _ => True) (.slice Ao7 t540.length co7) t540) ∧ Aside0 (Kd.R (Kd.int .i64) 3 w' w.heap.size (fun k_ => some k_ ≠ (v556 : Value).ownBlock ∧ some k_ ≠ (v559 : Value).ownBlock) v545 t544) ∧ Aside0 (Kd.R (Kd.int .i64) 3 w' w.heap.size (fun k_ => some k_ ≠ (v545 : Value).ownBlock ∧ some k_ ≠ (v559 : Value).ownBlock) v556 t555) ∧ Aside0 (Kd.R (Kd.int .i64) 3 w' w.heap.size (fun k_ => some k_ ≠ (v545 : Value).ownBlock ∧ some k_ ≠ (v556 : Value).ownBlock) v559 t558) ∧ Aside0 (Below w.heap.size w w'))
     case atStart => exact ⟨(1), fs, H', ⟨Nat.le_refl _⟩, ⟨ru HO_4.out⟩, ⟨by (with_reducible repeat (first | apply Kd.R_alloc | apply Kd.R_drewN | apply Kd.R_drew)); exact Kd.R_mono HO_6.out (fun _ hk => ⟨hk.1.2, hk.2⟩)⟩, ⟨by (with_reducible repeat (first | apply Kd.R_alloc | apply Kd.R_drewN | apply Kd.R_drew)); exact Kd.R_mono HO557.out (fun _ hk => ⟨hk.1.2, hk.2⟩)⟩, ⟨by (with_reducible repeat (first | apply Kd.R_alloc | apply Kd.R_drewN | apply Kd.R_drew)); exact Kd.R_mono HO560.out (fun _ hk => ⟨hk.1.2, hk.2⟩)⟩, ⟨bw HB.out⟩⟩
     case round =>
      clear H'
      try clear c1
      try clear c2
      try clear c2b0
      try clear c2b1
      try clear p2
      try clear c3
      try clear c4
      try clear c6
      try clear c11
      try clear c18
      try clear c23
      try clear p2
      obtain ⟨x9_2, rfl, HA, HK2, HO_4, HO_6, HO_7, HO_8, HB⟩ := hrel
      cases gk with
      | zero => exact absurd HA.out (by simp [laws_FnWayUp.l0])
      | succ k2 =>
       have H := HA.out
       clear HA
       simp only [laws_FnWayUp.l0] at H
       by_cases c28 : x9_2 < (t544.length : Int)
       ·rw [if_pos c28] at H
        have c28b0 : decide (x9_2 < (t544.length : Int)) = true := decide_eq_true c28
        clear c28
        have H' := Aside0.mk H
        clear H
        obtain ⟨Ao29, co29, eo29⟩ := Kd.R_slice HO_6.out
        subst eo29
        obtain ⟨Ao30, co30, eo30⟩ := Kd.R_slice HO_8.out
        subst eo30
        go_wp2
        go_loopg [10, 59] k2 (fun kq v10 v59 w' => ∃ (x10_3 : Bool) (x59_3 : Int), v10 = .bool x10_3 ∧ v59 = .int .i64 x59_3 ∧ Aside0 (laws_FnWayUp.l1 kq t539 t540 t541 t544 t555 t558 x9_2 x10_3 t558 (t558.length : Int) x59_3 = some r) ∧ Aside0 (kq ≤ k2) ∧ Aside0 (Kd.R k44 44 w' w.heap.size (fun _ => True) (.slice Ao7 t540.length co7) t540) ∧ Aside0 (Kd.R (Kd.int .i64) 3 w' w.heap.size (fun k_ => some k_ ≠ (v556 : Value).ownBlock ∧ some k_ ≠ ((.slice Ao30 t558.length co30) : Value).ownBlock ∧ some k_ ≠ ((.slice Ao30 t558.length co30) : Value).ownBlock) (.slice Ao29 t544.length co29) t544) ∧ Aside0 (Kd.R (Kd.int .i64) 3 w' w.heap.size (fun k_ => some k_ ≠ ((.slice Ao29 t544.length co29) : Value).ownBlock ∧ some k_ ≠ ((.slice Ao30 t558.length co30) : Value).ownBlock ∧ some k_ ≠ ((.slice Ao30 t558.length co30) : Value).ownBlock) v556 t555) ∧ Aside0 (Kd.R (Kd.int .i64) 3 w' w.heap.size (fun k_ => some k_ ≠ ((.slice Ao29 t544.length co29) : Value).ownBlock ∧ some k_ ≠ (v556 : Value).ownBlock) (.slice Ao30 t558.length co30) t558) ∧ Aside0 (Kd.R (Kd.int .i64) 3 w' w.heap.size (fun k_ => some k_ ≠ ((.slice Ao29 t544.length co29) : Value).ownBlock ∧ some k_ ≠ (v556 : Value).ownBlock) (.slice Ao30 t558.length co30) t558) ∧ Aside0 (Below w.heap.size w w'))
        case atStart => exact ⟨(false), (0), fs, fs, H', ⟨Nat.le_refl _⟩, ⟨ru HO_4.out⟩, ⟨by (with_reducible repeat (first | apply Kd.R_alloc | apply Kd.R_drewN | apply Kd.R_drew)); exact Kd.R_mono HO_6.out (fun _ hk => ⟨hk.1, ⟨hk.2, hk.2⟩⟩)⟩, ⟨by (with_reducible repeat (first | apply Kd.R_alloc | apply Kd.R_drewN | apply Kd.R_drew)); exact Kd.R_mono HO_7.out (fun _ hk => ⟨hk.1, ⟨hk.2, hk.2⟩⟩)⟩, ⟨ru HO_8.out⟩, ⟨ru HO_8.out⟩, ⟨bw HB.out⟩⟩
        case round =>
         clear H'
         try clear c1
         try clear c2
         try clear c2b0
         try clear c2b1
         try clear p2
         try clear c3
         try clear c4
         try clear c6
         try clear c11
         try clear c18
         try clear c23
         try clear c28
         try clear c28b0
         try clear p2
         obtain ⟨x10_3, x59_3, rfl, rfl, HA, HK3, HO_4, HO_6, HO_7, HO_8, HO_57, HB⟩ := hrel
         cases gk with
         | zero => exact absurd HA.out (by simp [laws_FnWayUp.l1])
         | succ k3 =>
          have H := HA.out
          clear HA
          simp only [laws_FnWayUp.l1] at H
          by_cases c31 : x59_3 < (t558.length : Int)
          ·rw [if_pos c31] at H
           have c31b0 : decide (x59_3 < (t558.length : Int)) = true := decide_eq_true c31
           clear c31
           by_cases c32 : 0 ≤ x59_3
           ·rw [if_pos c32] at H
            have c32b0 : decide (0 ≤ x59_3) = true := decide_eq_true c32
            clear c32
            by_cases c33 : x59_3 < (t558.length : Int)
            ·rw [if_pos c33] at H
             have c33b0 : decide (x59_3 < (t558.length : Int)) = true := decide_eq_true c33
             clear c33
             by_cases c34 : 0 ≤ (rd t558 x59_3)
             ·rw [if_pos c34] at H
              have c34b0 : decide (0 ≤ (rd t558 x59_3)) = true := decide_eq_true c34
              clear c34
              by_cases c35 : (rd t558 x59_3) < (t540.length : Int)
              ·rw [if_pos c35] at H
               have c35b0 : decide ((rd t558 x59_3) < (t540.length : Int)) = true := decide_eq_true c35
               clear c35
               by_cases c36 : x10_3 = true
               ·subst c36
                rw [if_pos rfl] at H
                have H' := Aside0.mk H
                clear H
                have p564 : 0 ≤ (x59_3 : Int) := od
                have q564 : x59_3 < (t558.length : Int) := od
                obtain ⟨ad564, e564, hx564_0⟩ := Kd.at_int (Kd.R_reads' HO_57.out).2.2 x59_3 p564 q564
                cases e564
                replace p564 := eq_true p564
                replace q564 := eq_true q564
                have p565 : 0 ≤ ((rd t558 x59_3) : Int) := od
                have q565 : (rd t558 x59_3) < (t540.length : Int) := od
                obtain ⟨ad565, e565, hx565_0, hx565_1, hx565_2⟩ := at_T44 (Kd.R_reads' HO_4.out).2.2 (rd t558 x59_3) p565 q565
                cases e565
                replace p565 := eq_true p565
                replace q565 := eq_true q565
                try go_wp2_with (first | ((with_reducible refine gate_dst (N := 13) rfl ?_); (try (refine gate_guard (by rfl) ?_; dsimp only)); refine box_event ?hg (N := 13) ?hd (cs := #[.int .i64 0, .int .i64 0, .int .i64 0]) (t := 44) ?hr ?_; (case hd => rfl); (case hg => rfl); (case hr => first | (go_simp; done) | (go_simp; rfl)); intro gb566 hg w37 hbox hb; have n0_ := Aside0.mk (Kd.R_below (Kd.R_elderB (ru HO_4.out) gb566 (Nat.le_of_eq hg.symm)) hb); have n1_ := Aside0.mk (Kd.R_below (ru HO_6.out) hb); have n2_ := Aside0.mk (Kd.R_below (ru HO_7.out) hb); have n3_ := Aside0.mk (Kd.R_below (ru HO_8.out) hb); have n4_ := Aside0.mk (Kd.R_below (ru HO_57.out) hb); have n5_ := Aside0.mk (below_step (bw HB.out) hb); have n6_ := Aside0.mk (hbox); have n7_ := Aside0.mk ((by rw [hg]; exact (below_size (bw HB.out)) : w.heap.size ≤ gb566)); have n8_ := Aside0.mk ((by rw [hg]; exact (below_size (bw HB.out)) : w.heap.size ≤ gb566)); clear HO_4; clear HO_6; clear HO_7; clear HO_8; clear HO_57; clear HB; have HO_4 := n0_; have HO_6 := n1_; have HO_7 := n2_; have HO_8 := n3_; have HO_57 := n4_; have HB := n5_; have BK566 := n6_; have GW566 := n7_; have GE566 := n8_; clear n0_ n1_ n2_ n3_ n4_ n5_ n6_ n7_ n8_; clear hb hbox hg; have hcz38_0 : w37.cell? ⟨gb566, 0, none⟩ = some (.int .i64 0) := (blk_cell BK566.out 0).trans rfl; have hcz38_1 : w37.cell? ⟨gb566, 1, none⟩ = some (.int .i64 0) := (blk_cell BK566.out 1).trans rfl; have hcz38_2 : w37.cell? ⟨gb566, 2, none⟩ = some (.int .i64 0) := (blk_cell BK566.out 2).trans rfl; have hfz38_0 := blk_frozen BK566.out 0; have hfz38_1 := blk_frozen BK566.out 1; have hfz38_2 := blk_frozen BK566.out 2))
                have n0_ : Aside0 (Kd.R k44 44 (((w37.setCell ⟨gb566, 0, none⟩ (.int .i64 ((rd_T44 t540 (rd t558 x59_3)).f0))).setCell ⟨gb566, 1, none⟩ (.int .i64 ((rd_T44 t540 (rd t558 x59_3)).f1))).setCell ⟨gb566, 2, none⟩ (.int .i64 ((rd_T44 t540 (rd t558 x59_3)).f2))) w.heap.size (fun k_ => k_ ≠ gb566) (.slice (some ad565) t540.length co7) t540) := ⟨by (with_reducible repeat (first | apply Kd.R_alloc | apply Kd.R_drewN | apply Kd.R_drew)); exact Kd.R_mono (Kd.R_far (p := ⟨gb566, 2, none⟩) (Kd.R_far (p := ⟨gb566, 1, none⟩) (Kd.R_far (p := ⟨gb566, 0, none⟩) (Kd.R_mono HO_4.out (fun k_ hk => (⟨hk, hk.2⟩ : _ ∧ k_ ≠ gb566))) (fun _ hk => hk.2) (.int .i64 ((rd_T44 t540 (rd t558 x59_3)).f0))) (fun _ hk => hk.2) (.int .i64 ((rd_T44 t540 (rd t558 x59_3)).f1))) (fun _ hk => hk.2) (.int .i64 ((rd_T44 t540 (rd t558 x59_3)).f2))) (fun _ hk => hk.1.2)⟩
                have n1_ : Aside0 (Kd.R (Kd.int .i64) 3 (((w37.setCell ⟨gb566, 0, none⟩ (.int .i64 ((rd_T44 t540 (rd t558 x59_3)).f0))).setCell ⟨gb566, 1, none⟩ (.int .i64 ((rd_T44 t540 (rd t558 x59_3)).f1))).setCell ⟨gb566, 2, none⟩ (.int .i64 ((rd_T44 t540 (rd t558 x59_3)).f2))) w.heap.size (fun k_ => some k_ ≠ (v556 : Value).ownBlock ∧ some k_ ≠ (.slice (some ad564) t558.length co30 : Value).ownBlock ∧ some k_ ≠ (.slice (some ad564) t558.length co30 : Value).ownBlock) (.slice Ao29 t544.length co29) t544) := ⟨by (with_reducible repeat (first | apply Kd.R_alloc | apply Kd.R_drewN | apply Kd.R_drew)); exact Kd.R_mono (Kd.R_far (p := ⟨gb566, 2, none⟩) (Kd.R_far (p := ⟨gb566, 1, none⟩) (Kd.R_far (p := ⟨gb566, 0, none⟩) (Kd.R_types HO_6.out BK566.out (by decide)) (fun _ hk => hk.2) (.int .i64 ((rd_T44 t540 (rd t558 x59_3)).f0))) (fun _ hk => hk.2) (.int .i64 ((rd_T44 t540 (rd t558 x59_3)).f1))) (fun _ hk => hk.2) (.int .i64 ((rd_T44 t540 (rd t558 x59_3)).f2))) (fun _ hk => ⟨hk.1.1, ⟨hk.1.2.1, hk.1.2.2⟩⟩)⟩
                have n2_ : Aside0 (Kd.R (Kd.int .i64) 3 (((w37.setCell ⟨gb566, 0, none⟩ (.int .i64 ((rd_T44 t540 (rd t558 x59_3)).f0))).setCell ⟨gb566, 1, none⟩ (.int .i64 ((rd_T44 t540 (rd t558 x59_3)).f1))).setCell ⟨gb566, 2, none⟩ (.int .i64 ((rd_T44 t540 (rd t558 x59_3)).f2))) w.heap.size (fun k_ => some k_ ≠ (.slice Ao29 t544.length co29 : Value).ownBlock ∧ some k_ ≠ (.slice (some ad564) t558.length co30 : Value).ownBlock ∧ some k_ ≠ (.slice (some ad564) t558.length co30 : Value).ownBlock) v556 t555) := ⟨by (with_reducible repeat (first | apply Kd.R_alloc | apply Kd.R_drewN | apply Kd.R_drew)); exact Kd.R_mono (Kd.R_far (p := ⟨gb566, 2, none⟩) (Kd.R_far (p := ⟨gb566, 1, none⟩) (Kd.R_far (p := ⟨gb566, 0, none⟩) (Kd.R_types HO_7.out BK566.out (by decide)) (fun _ hk => hk.2) (.int .i64 ((rd_T44 t540 (rd t558 x59_3)).f0))) (fun _ hk => hk.2) (.int .i64 ((rd_T44 t540 (rd t558 x59_3)).f1))) (fun _ hk => hk.2) (.int .i64 ((rd_T44 t540 (rd t558 x59_3)).f2))) (fun _ hk => ⟨hk.1.1, ⟨hk.1.2.1, hk.1.2.2⟩⟩)⟩
                have n3_ : Aside0 (Kd.R (Kd.int .i64) 3 (((w37.setCell ⟨gb566, 0, none⟩ (.int .i64 ((rd_T44 t540 (rd t558 x59_3)).f0))).setCell ⟨gb566, 1, none⟩ (.int .i64 ((rd_T44 t540 (rd t558 x59_3)).f1))).setCell ⟨gb566, 2, none⟩ (.int .i64 ((rd_T44 t540 (rd t558 x59_3)).f2))) w.heap.size (fun k_ => some k_ ≠ (.slice Ao29 t544.length co29 : Value).ownBlock ∧ some k_ ≠ (v556 : Value).ownBlock) (.slice (some ad564) t558.length co30) t558) := ⟨by (with_reducible repeat (first | apply Kd.R_alloc | apply Kd.R_drewN | apply Kd.R_drew)); exact Kd.R_mono (Kd.R_far (p := ⟨gb566, 2, none⟩) (Kd.R_far (p := ⟨gb566, 1, none⟩) (Kd.R_far (p := ⟨gb566, 0, none⟩) (Kd.R_types HO_8.out BK566.out (by decide)) (fun _ hk => hk.2) (.int .i64 ((rd_T44 t540 (rd t558 x59_3)).f0))) (fun _ hk => hk.2) (.int .i64 ((rd_T44 t540 (rd t558 x59_3)).f1))) (fun _ hk => hk.2) (.int .i64 ((rd_T44 t540 (rd t558 x59_3)).f2))) (fun _ hk => ⟨hk.1.1, hk.1.2⟩)⟩
                have n4_ : Aside0 (Kd.R (Kd.int .i64) 3 (((w37.setCell ⟨gb566, 0, none⟩ (.int .i64 ((rd_T44 t540 (rd t558 x59_3)).f0))).setCell ⟨gb566, 1, none⟩ (.int .i64 ((rd_T44 t540 (rd t558 x59_3)).f1))).setCell ⟨gb566, 2, none⟩ (.int .i64 ((rd_T44 t540 (rd t558 x59_3)).f2))) w.heap.size (fun k_ => some k_ ≠ (.slice Ao29 t544.length co29 : Value).ownBlock ∧ some k_ ≠ (v556 : Value).ownBlock) (.slice (some ad564) t558.length co30) t558) := ⟨by (with_reducible repeat (first | apply Kd.R_alloc | apply Kd.R_drewN | apply Kd.R_drew)); exact Kd.R_mono (Kd.R_far (p := ⟨gb566, 2, none⟩) (Kd.R_far (p := ⟨gb566, 1, none⟩) (Kd.R_far (p := ⟨gb566, 0, none⟩) (Kd.R_types HO_57.out BK566.out (by decide)) (fun _ hk => hk.2) (.int .i64 ((rd_T44 t540 (rd t558 x59_3)).f0))) (fun _ hk => hk.2) (.int .i64 ((rd_T44 t540 (rd t558 x59_3)).f1))) (fun _ hk => hk.2) (.int .i64 ((rd_T44 t540 (rd t558 x59_3)).f2))) (fun _ hk => ⟨hk.1.1, hk.1.2⟩)⟩
                have n5_ : Aside0 ((((w37.setCell ⟨gb566, 0, none⟩ (.int .i64 ((rd_T44 t540 (rd t558 x59_3)).f0))).setCell ⟨gb566, 1, none⟩ (.int .i64 ((rd_T44 t540 (rd t558 x59_3)).f1))).setCell ⟨gb566, 2, none⟩ (.int .i64 ((rd_T44 t540 (rd t558 x59_3)).f2))).heap[gb566]? = some (.cells #[.int .i64 ((rd_T44 t540 (rd t558 x59_3)).f0), .int .i64 ((rd_T44 t540 (rd t558 x59_3)).f1), .int .i64 ((rd_T44 t540 (rd t558 x59_3)).f2)] 44 (0, 0))) := ⟨by (with_reducible repeat (first | refine blk_drewN ?_ _ | refine blk_drew ?_ | refine blk_alloc ?_ _)); refine blk_put (cs := #[.int .i64 ((rd_T44 t540 (rd t558 x59_3)).f0), .int .i64 ((rd_T44 t540 (rd t558 x59_3)).f1), .int .i64 0]) ?_ 2 _ rfl; (with_reducible repeat (first | refine blk_drewN ?_ _ | refine blk_drew ?_ | refine blk_alloc ?_ _)); refine blk_put (cs := #[.int .i64 ((rd_T44 t540 (rd t558 x59_3)).f0), .int .i64 0, .int .i64 0]) ?_ 1 _ rfl; (with_reducible repeat (first | refine blk_drewN ?_ _ | refine blk_drew ?_ | refine blk_alloc ?_ _)); refine blk_put (cs := #[.int .i64 0, .int .i64 0, .int .i64 0]) ?_ 0 _ rfl; (with_reducible repeat (first | refine blk_drewN ?_ _ | refine blk_drew ?_ | refine blk_alloc ?_ _)); exact BK566.out⟩
                have n6_ : Aside0 (Below w.heap.size w (((w37.setCell ⟨gb566, 0, none⟩ (.int .i64 ((rd_T44 t540 (rd t558 x59_3)).f0))).setCell ⟨gb566, 1, none⟩ (.int .i64 ((rd_T44 t540 (rd t558 x59_3)).f1))).setCell ⟨gb566, 2, none⟩ (.int .i64 ((rd_T44 t540 (rd t558 x59_3)).f2)))) := ⟨bw HB.out⟩
                (try clear HO_4)
                (try clear HO_6)
                (try clear HO_7)
                (try clear HO_8)
                (try clear HO_57)
                (try clear BK566)
                (try clear HB)
                generalize (((w37.setCell ⟨gb566, 0, none⟩ (.int .i64 ((rd_T44 t540 (rd t558 x59_3)).f0))).setCell ⟨gb566, 1, none⟩ (.int .i64 ((rd_T44 t540 (rd t558 x59_3)).f1))).setCell ⟨gb566, 2, none⟩ (.int .i64 ((rd_T44 t540 (rd t558 x59_3)).f2))) = w39 at n0_ n1_ n2_ n3_ n4_ n5_ n6_ ⊢
                have HO_4 := n0_
                have HO_6 := n1_
                have HO_7 := n2_
                have HO_8 := n3_
                have HO_57 := n4_
                have BK566 := n5_
                have HB := n6_
                clear n0_ n1_ n2_ n3_ n4_ n5_ n6_
                have n0_ := Aside0.mk (Kd.R_drew HO_4.out)
                have n1_ := Aside0.mk (Kd.R_drew HO_6.out)
                have n2_ := Aside0.mk (Kd.R_drew HO_7.out)
                have n3_ := Aside0.mk (Kd.R_drew HO_8.out)
                have n4_ := Aside0.mk (Kd.R_drew HO_57.out)
                have n5_ := Aside0.mk (blk_drew BK566.out)
                have n6_ := Aside0.mk (below_drew1 HB.out)
                clear HO_4
                clear HO_6
                clear HO_7
                clear HO_8
                clear HO_57
                clear BK566
                clear HB
                have HO_4 := n0_
                have HO_6 := n1_
                have HO_7 := n2_
                have HO_8 := n3_
                have HO_57 := n4_
                have BK566 := n5_
                have HB := n6_
                clear n0_ n1_ n2_ n3_ n4_ n5_ n6_
                refine start_ (n := 59) (S := fun w' => True) (ds := []) (bl 59 0) (by kernel_rfl) rfl (by kernel_rfl) trivial (fun hHeld => ?_); refine with_tabW laws_FnWayUp.tab17 laws_FnWayUp.bits17 (fun HT_ HW_ => ?_)
                generalize w39.drew = w40 at HO_4 HO_6 HO_7 HO_8 HO_57 BK566 HB hHeld ⊢
                refine pA 0 (some 67) (bl 59 1) HT_ (h := ?_)
                refine pA 1 (some 68) (bl 59 3) HT_ (h := ?_)
                refine pO 2 (some 69) (bl 59 7) HT_ (h := ?_)
                refine pO 3 (some 70) (bl 59 15) HT_ (h := ?_)
                refine pO 4 (some 71) (bl 59 31) HT_ (h := ?_)
                refine pO 5 (some 72) (bl 59 63) HT_ (h := ?_)
                refine pO 6 (some 73) (bl 59 127) HT_ (h := ?_)
                refine pO 7 (some 74) (bl 59 255) HT_ (h := ?_)
                refine pO 8 (some 75) (bl 59 511) HT_ (h := ?_)
                refine pO 9 (some 76) (bl 59 1023) HT_ (h := ?_)
                refine pO 10 (some 77) (bl 59 2047) HT_ (h := ?_)
                refine pO 11 (some 78) (bl 59 4095) HT_ (h := ?_)
                refine pO 12 (some 79) (bl 59 8191) HT_ (h := ?_)
                refine pO 13 (some 80) (bl 59 16383) HT_ (h := ?_)
                refine pO 14 (some 81) (bl 59 32767) HT_ (h := ?_)
                refine pO 15 (some 82) (bl 59 65535) HT_ (h := ?_)
                refine pO 16 (some 83) (bl 59 131071) HT_ (h := ?_)
                refine pO 17 (some 84) (bl 59 262143) HT_ (h := ?_)
                refine pO 18 (some 85) (bl 59 524287) HT_ (h := ?_)
                refine pO 19 (some 86) (bl 59 1048575) HT_ (h := ?_)
                refine pO 20 (some 87) (bl 59 2097151) HT_ (h := ?_)
                refine pO 21 (some 88) (bl 59 4194303) HT_ (h := ?_)
                refine pO 22 (some 89) (bl 59 8388607) HT_ (h := ?_)
                refine pO 23 (some 90) (bl 59 16777215) HT_ (h := ?_)
                refine pO 24 (some 91) (bl 59 33554431) HT_ (h := ?_)
                refine pO 25 (some 92) (bl 59 67108863) HT_ (h := ?_)
                refine pO 26 (some 93) (bl 59 134217727) HT_ (h := ?_)
                refine pO 27 (some 94) (bl 59 268435455) HT_ (h := ?_)
                refine pO 28 (some 95) (bl 59 536870911) HT_ (h := ?_)
                refine pO 29 (some 96) (bl 59 1073741823) HT_ (h := ?_)
                refine pO 30 (some 97) (bl 59 2147483647) HT_ (h := ?_)
                refine pO 31 (some 98) (bl 59 4294967295) HT_ (h := ?_)
                refine pO 32 (some 99) (bl 59 8589934591) HT_ (h := ?_)
                refine pO 33 (some 100) (bl 59 17179869183) HT_ (h := ?_)
                refine pO 34 (some 101) (bl 59 34359738367) HT_ (h := ?_)
                refine pO 35 (some 102) (bl 59 68719476735) HT_ (h := ?_)
                refine pO 36 (some 103) (bl 59 137438953471) HT_ (h := ?_)
                refine pO 37 (some 104) (bl 59 274877906943) HT_ (h := ?_)
                refine pO 38 (some 105) (bl 59 549755813887) HT_ (h := ?_)
                refine pO 39 (some 106) (bl 59 1099511627775) HT_ (h := ?_)
                refine pO 40 (some 107) (bl 59 2199023255551) HT_ (h := ?_)
                refine pO 41 (some 108) (bl 59 4398046511103) HT_ (h := ?_)
                refine pO 42 (some 109) (bl 59 8796093022207) HT_ (h := ?_)
                refine pO 43 (some 110) (bl 59 17592186044415) HT_ (h := ?_)
                refine pO 44 (some 111) (bl 59 35184372088831) HT_ (h := ?_)
                refine pO 45 (some 112) (bl 59 70368744177663) HT_ (h := ?_)
                refine pO 46 (some 113) (bl 59 140737488355327) HT_ (h := ?_)
                refine pO 47 (some 114) (bl 59 281474976710655) HT_ (h := ?_)
                refine pO 48 (some 115) (bl 59 562949953421311) HT_ (h := ?_)
                refine pO 49 (some 116) (bl 59 1125899906842623) HT_ (h := ?_)
                refine pO 50 (some 117) (bl 59 2251799813685247) HT_ (h := ?_)
                refine pO 51 (some 118) (bl 59 4503599627370495) HT_ (h := ?_)
                refine pO 52 (some 119) (bl 59 9007199254740991) HT_ (h := ?_)
                refine pO 53 (some 120) (bl 59 18014398509481983) HT_ (h := ?_)
                refine pO 54 (some 121) (bl 59 36028797018963967) HT_ (h := ?_)
                refine pO 55 (some 122) (bl 59 72057594037927935) HT_ (h := ?_)
                refine pO 56 (some 123) (bl 59 144115188075855871) HT_ (h := ?_)
                refine pA 57 (some 124) (bl 59 288230376151711743) HT_ (h := ?_)
                refine pA 58 (some 10) (bl 59 576460752303423487) HT_ (h := ?_)
                refine done_ (done_of HT_.out (by kernel_rfl)) ?_
                try go_wp2
                go_roundg k3
                case measure => have := HJ4.out; have := HK2.out; have := HK3.out; omega
                case rel => exact ⟨(true), (wrap64 (x59_3 + 1)), fs, fs, H', ⟨by have := HJ4.out; have := HK2.out; have := HK3.out; omega⟩, ⟨by (with_reducible repeat (first | apply Kd.R_alloc | apply Kd.R_drewN | apply Kd.R_drew)); exact Kd.R_mono HO_4.out (fun _ hk => trivial)⟩, ⟨ru HO_6.out⟩, ⟨ru HO_7.out⟩, ⟨ru HO_8.out⟩, ⟨ru HO_57.out⟩, ⟨bw HB.out⟩⟩
               ·replace c36 := Bool.eq_false_iff.mpr c36
                subst c36
                rw [if_neg (show ¬ (false = true) by decide)] at H
                obtain ⟨ji41, hji41⟩ : ∃ j_ : Int, (wrap64 (x9_2 - 1)) = j_ := ⟨_, rfl⟩
                replace H : (if 0 ≤ (ji41) then (if (ji41) < (t544.length : Int) then (if 0 ≤ x9_2 then (if x9_2 < (t544.length : Int) then (if (wrap64 (((rd_T44 t540 (rd t558 x59_3)).f0) + ((rd_T44 t540 (rd t558 x59_3)).f1))) = (wrap64 ((rd t544 (ji41)) + (rd t544 x9_2))) then (if ((rd_T44 t540 (rd t558 x59_3)).f0) = (rd t544 x9_2) then (if 0 ≤ (rd t544 x9_2) then (if (rd t544 x9_2) < (t555.length : Int) then (if 0 ≤ (rd t544 (ji41)) then (if (rd t544 (ji41)) < (t555.length : Int) then (laws_FnWayUp.l1 k3 t539 t540 t541 t544 t555 t558 x9_2 ((wrap64 ((rd t555 (rd t544 x9_2)) + ((rd_T44 t540 (rd t558 x59_3)).f2))) == (rd t555 (rd t544 (ji41)))) t558 (t558.length : Int) (wrap64 (x59_3 + 1))) else (none)) else (none)) else (none)) else (none)) else (if ((rd_T44 t540 (rd t558 x59_3)).f1) = (rd t544 x9_2) then (if 0 ≤ (rd t544 x9_2) then (if (rd t544 x9_2) < (t555.length : Int) then (if 0 ≤ (rd t544 (ji41)) then (if (rd t544 (ji41)) < (t555.length : Int) then (laws_FnWayUp.l1 k3 t539 t540 t541 t544 t555 t558 x9_2 ((wrap64 ((rd t555 (rd t544 x9_2)) + ((rd_T44 t540 (rd t558 x59_3)).f2))) == (rd t555 (rd t544 (ji41)))) t558 (t558.length : Int) (wrap64 (x59_3 + 1))) else (none)) else (none)) else (none)) else (none)) else (laws_FnWayUp.l1 k3 t539 t540 t541 t544 t555 t558 x9_2 false t558 (t558.length : Int) (wrap64 (x59_3 + 1))))) else (laws_FnWayUp.l1 k3 t539 t540 t541 t544 t555 t558 x9_2 false t558 (t558.length : Int) (wrap64 (x59_3 + 1)))) else (none)) else (none)) else (none)) else (none)) = some r := by first | (rw [hji41] at H; exact H) | (simp only [hji41] at H ⊢; exact H)
                have hji41w : (IntKind.i64.wrap (x9_2 - 1)) = ji41 := (i64_w _).trans hji41
                by_cases c42 : 0 ≤ (ji41)
                ·rw [if_pos c42] at H
                 have c42b0 : decide (0 ≤ (ji41)) = true := decide_eq_true c42
                 clear c42
                 by_cases c43 : (ji41) < (t544.length : Int)
                 ·rw [if_pos c43] at H
                  have c43b0 : decide ((ji41) < (t544.length : Int)) = true := decide_eq_true c43
                  clear c43
                  by_cases c44 : 0 ≤ x9_2
                  ·rw [if_pos c44] at H
                   have c44b0 : decide (0 ≤ x9_2) = true := decide_eq_true c44
                   clear c44
                   by_cases c45 : x9_2 < (t544.length : Int)
                   ·rw [if_pos c45] at H
                    have c45b0 : decide (x9_2 < (t544.length : Int)) = true := decide_eq_true c45
                    clear c45
                    by_cases c46 : (wrap64 (((rd_T44 t540 (rd t558 x59_3)).f0) + ((rd_T44 t540 (rd t558 x59_3)).f1))) = (wrap64 ((rd t544 (ji41)) + (rd t544 x9_2)))
                    ·rw [if_pos c46] at H
                     have c46b0 : ((wrap64 (((rd_T44 t540 (rd t558 x59_3)).f0) + ((rd_T44 t540 (rd t558 x59_3)).f1))) == (wrap64 ((rd t544 (ji41)) + (rd t544 x9_2)))) = true := beq_iff_eq.mpr c46
                     have c46b1 : ((wrap64 (((rd_T44 t540 (rd t558 x59_3)).f0) + ((rd_T44 t540 (rd t558 x59_3)).f1))) != (wrap64 ((rd t544 (ji41)) + (rd t544 x9_2)))) = false := bne_eq_false_iff_eq.mpr c46
                     clear c46
                     by_cases c47 : ((rd_T44 t540 (rd t558 x59_3)).f0) = (rd t544 x9_2)
                     ·rw [if_pos c47] at H
                      have c47b0 : (((rd_T44 t540 (rd t558 x59_3)).f0) == (rd t544 x9_2)) = true := beq_iff_eq.mpr c47
                      have c47b1 : (((rd_T44 t540 (rd t558 x59_3)).f0) != (rd t544 x9_2)) = false := bne_eq_false_iff_eq.mpr c47
                      clear c47
                      by_cases c48 : 0 ≤ (rd t544 x9_2)
                      ·rw [if_pos c48] at H
                       have c48b0 : decide (0 ≤ (rd t544 x9_2)) = true := decide_eq_true c48
                       clear c48
                       by_cases c49 : (rd t544 x9_2) < (t555.length : Int)
                       ·rw [if_pos c49] at H
                        have c49b0 : decide ((rd t544 x9_2) < (t555.length : Int)) = true := decide_eq_true c49
                        clear c49
                        by_cases c50 : 0 ≤ (rd t544 (ji41))
                        ·rw [if_pos c50] at H
                         have c50b0 : decide (0 ≤ (rd t544 (ji41))) = true := decide_eq_true c50
                         clear c50
                         by_cases c51 : (rd t544 (ji41)) < (t555.length : Int)
                         ·rw [if_pos c51] at H
                          have c51b0 : decide ((rd t544 (ji41)) < (t555.length : Int)) = true := decide_eq_true c51
                          clear c51
                          have H' := Aside0.mk H
                          clear H
                          have p564 : 0 ≤ (x59_3 : Int) := od
                          have q564 : x59_3 < (t558.length : Int) := od
                          obtain ⟨ad564, e564, hx564_0⟩ := Kd.at_int (Kd.R_reads' HO_57.out).2.2 x59_3 p564 q564
                          cases e564
                          replace p564 := eq_true p564
                          replace q564 := eq_true q564
                          have p565 : 0 ≤ ((rd t558 x59_3) : Int) := od
                          have q565 : (rd t558 x59_3) < (t540.length : Int) := od
                          obtain ⟨ad565, e565, hx565_0, hx565_1, hx565_2⟩ := at_T44 (Kd.R_reads' HO_4.out).2.2 (rd t558 x59_3) p565 q565
                          cases e565
                          replace p565 := eq_true p565
                          replace q565 := eq_true q565
                          try go_wp2_with (first | ((with_reducible refine gate_dst (N := 13) rfl ?_); (try (refine gate_guard (by rfl) ?_; dsimp only)); refine box_event ?hg (N := 13) ?hd (cs := #[.int .i64 0, .int .i64 0, .int .i64 0]) (t := 44) ?hr ?_; (case hd => rfl); (case hg => rfl); (case hr => first | (go_simp; done) | (go_simp; rfl)); intro gb566 hg w52 hbox hb; have n0_ := Aside0.mk (Kd.R_below (Kd.R_elderB (ru HO_4.out) gb566 (Nat.le_of_eq hg.symm)) hb); have n1_ := Aside0.mk (Kd.R_below (ru HO_6.out) hb); have n2_ := Aside0.mk (Kd.R_below (ru HO_7.out) hb); have n3_ := Aside0.mk (Kd.R_below (ru HO_8.out) hb); have n4_ := Aside0.mk (Kd.R_below (ru HO_57.out) hb); have n5_ := Aside0.mk (below_step (bw HB.out) hb); have n6_ := Aside0.mk (hbox); have n7_ := Aside0.mk ((by rw [hg]; exact (below_size (bw HB.out)) : w.heap.size ≤ gb566)); have n8_ := Aside0.mk ((by rw [hg]; exact (below_size (bw HB.out)) : w.heap.size ≤ gb566)); clear HO_4; clear HO_6; clear HO_7; clear HO_8; clear HO_57; clear HB; have HO_4 := n0_; have HO_6 := n1_; have HO_7 := n2_; have HO_8 := n3_; have HO_57 := n4_; have HB := n5_; have BK566 := n6_; have GW566 := n7_; have GE566 := n8_; clear n0_ n1_ n2_ n3_ n4_ n5_ n6_ n7_ n8_; clear hb hbox hg; have hcz53_0 : w52.cell? ⟨gb566, 0, none⟩ = some (.int .i64 0) := (blk_cell BK566.out 0).trans rfl; have hcz53_1 : w52.cell? ⟨gb566, 1, none⟩ = some (.int .i64 0) := (blk_cell BK566.out 1).trans rfl; have hcz53_2 : w52.cell? ⟨gb566, 2, none⟩ = some (.int .i64 0) := (blk_cell BK566.out 2).trans rfl; have hfz53_0 := blk_frozen BK566.out 0; have hfz53_1 := blk_frozen BK566.out 1; have hfz53_2 := blk_frozen BK566.out 2))
                          have n0_ : Aside0 (Kd.R k44 44 (((w52.setCell ⟨gb566, 0, none⟩ (.int .i64 ((rd_T44 t540 (rd t558 x59_3)).f0))).setCell ⟨gb566, 1, none⟩ (.int .i64 ((rd_T44 t540 (rd t558 x59_3)).f1))).setCell ⟨gb566, 2, none⟩ (.int .i64 ((rd_T44 t540 (rd t558 x59_3)).f2))) w.heap.size (fun k_ => k_ ≠ gb566) (.slice (some ad565) t540.length co7) t540) := ⟨by (with_reducible repeat (first | apply Kd.R_alloc | apply Kd.R_drewN | apply Kd.R_drew)); exact Kd.R_mono (Kd.R_far (p := ⟨gb566, 2, none⟩) (Kd.R_far (p := ⟨gb566, 1, none⟩) (Kd.R_far (p := ⟨gb566, 0, none⟩) (Kd.R_mono HO_4.out (fun k_ hk => (⟨hk, hk.2⟩ : _ ∧ k_ ≠ gb566))) (fun _ hk => hk.2) (.int .i64 ((rd_T44 t540 (rd t558 x59_3)).f0))) (fun _ hk => hk.2) (.int .i64 ((rd_T44 t540 (rd t558 x59_3)).f1))) (fun _ hk => hk.2) (.int .i64 ((rd_T44 t540 (rd t558 x59_3)).f2))) (fun _ hk => hk.1.2)⟩
                          have n1_ : Aside0 (Kd.R (Kd.int .i64) 3 (((w52.setCell ⟨gb566, 0, none⟩ (.int .i64 ((rd_T44 t540 (rd t558 x59_3)).f0))).setCell ⟨gb566, 1, none⟩ (.int .i64 ((rd_T44 t540 (rd t558 x59_3)).f1))).setCell ⟨gb566, 2, none⟩ (.int .i64 ((rd_T44 t540 (rd t558 x59_3)).f2))) w.heap.size (fun k_ => some k_ ≠ (v556 : Value).ownBlock ∧ some k_ ≠ (.slice (some ad564) t558.length co30 : Value).ownBlock ∧ some k_ ≠ (.slice (some ad564) t558.length co30 : Value).ownBlock) (.slice Ao29 t544.length co29) t544) := ⟨by (with_reducible repeat (first | apply Kd.R_alloc | apply Kd.R_drewN | apply Kd.R_drew)); exact Kd.R_mono (Kd.R_far (p := ⟨gb566, 2, none⟩) (Kd.R_far (p := ⟨gb566, 1, none⟩) (Kd.R_far (p := ⟨gb566, 0, none⟩) (Kd.R_types HO_6.out BK566.out (by decide)) (fun _ hk => hk.2) (.int .i64 ((rd_T44 t540 (rd t558 x59_3)).f0))) (fun _ hk => hk.2) (.int .i64 ((rd_T44 t540 (rd t558 x59_3)).f1))) (fun _ hk => hk.2) (.int .i64 ((rd_T44 t540 (rd t558 x59_3)).f2))) (fun _ hk => ⟨hk.1.1, ⟨hk.1.2.1, hk.1.2.2⟩⟩)⟩
                          have n2_ : Aside0 (Kd.R (Kd.int .i64) 3 (((w52.setCell ⟨gb566, 0, none⟩ (.int .i64 ((rd_T44 t540 (rd t558 x59_3)).f0))).setCell ⟨gb566, 1, none⟩ (.int .i64 ((rd_T44 t540 (rd t558 x59_3)).f1))).setCell ⟨gb566, 2, none⟩ (.int .i64 ((rd_T44 t540 (rd t558 x59_3)).f2))) w.heap.size (fun k_ => some k_ ≠ (.slice Ao29 t544.length co29 : Value).ownBlock ∧ some k_ ≠ (.slice (some ad564) t558.length co30 : Value).ownBlock ∧ some k_ ≠ (.slice (some ad564) t558.length co30 : Value).ownBlock) v556 t555) := ⟨by (with_reducible repeat (first | apply Kd.R_alloc | apply Kd.R_drewN | apply Kd.R_drew)); exact Kd.R_mono (Kd.R_far (p := ⟨gb566, 2, none⟩) (Kd.R_far (p := ⟨gb566, 1, none⟩) (Kd.R_far (p := ⟨gb566, 0, none⟩) (Kd.R_types HO_7.out BK566.out (by decide)) (fun _ hk => hk.2) (.int .i64 ((rd_T44 t540 (rd t558 x59_3)).f0))) (fun _ hk => hk.2) (.int .i64 ((rd_T44 t540 (rd t558 x59_3)).f1))) (fun _ hk => hk.2) (.int .i64 ((rd_T44 t540 (rd t558 x59_3)).f2))) (fun _ hk => ⟨hk.1.1, ⟨hk.1.2.1, hk.1.2.2⟩⟩)⟩
                          have n3_ : Aside0 (Kd.R (Kd.int .i64) 3 (((w52.setCell ⟨gb566, 0, none⟩ (.int .i64 ((rd_T44 t540 (rd t558 x59_3)).f0))).setCell ⟨gb566, 1, none⟩ (.int .i64 ((rd_T44 t540 (rd t558 x59_3)).f1))).setCell ⟨gb566, 2, none⟩ (.int .i64 ((rd_T44 t540 (rd t558 x59_3)).f2))) w.heap.size (fun k_ => some k_ ≠ (.slice Ao29 t544.length co29 : Value).ownBlock ∧ some k_ ≠ (v556 : Value).ownBlock) (.slice (some ad564) t558.length co30) t558) := ⟨by (with_reducible repeat (first | apply Kd.R_alloc | apply Kd.R_drewN | apply Kd.R_drew)); exact Kd.R_mono (Kd.R_far (p := ⟨gb566, 2, none⟩) (Kd.R_far (p := ⟨gb566, 1, none⟩) (Kd.R_far (p := ⟨gb566, 0, none⟩) (Kd.R_types HO_8.out BK566.out (by decide)) (fun _ hk => hk.2) (.int .i64 ((rd_T44 t540 (rd t558 x59_3)).f0))) (fun _ hk => hk.2) (.int .i64 ((rd_T44 t540 (rd t558 x59_3)).f1))) (fun _ hk => hk.2) (.int .i64 ((rd_T44 t540 (rd t558 x59_3)).f2))) (fun _ hk => ⟨hk.1.1, hk.1.2⟩)⟩
                          have n4_ : Aside0 (Kd.R (Kd.int .i64) 3 (((w52.setCell ⟨gb566, 0, none⟩ (.int .i64 ((rd_T44 t540 (rd t558 x59_3)).f0))).setCell ⟨gb566, 1, none⟩ (.int .i64 ((rd_T44 t540 (rd t558 x59_3)).f1))).setCell ⟨gb566, 2, none⟩ (.int .i64 ((rd_T44 t540 (rd t558 x59_3)).f2))) w.heap.size (fun k_ => some k_ ≠ (.slice Ao29 t544.length co29 : Value).ownBlock ∧ some k_ ≠ (v556 : Value).ownBlock) (.slice (some ad564) t558.length co30) t558) := ⟨by (with_reducible repeat (first | apply Kd.R_alloc | apply Kd.R_drewN | apply Kd.R_drew)); exact Kd.R_mono (Kd.R_far (p := ⟨gb566, 2, none⟩) (Kd.R_far (p := ⟨gb566, 1, none⟩) (Kd.R_far (p := ⟨gb566, 0, none⟩) (Kd.R_types HO_57.out BK566.out (by decide)) (fun _ hk => hk.2) (.int .i64 ((rd_T44 t540 (rd t558 x59_3)).f0))) (fun _ hk => hk.2) (.int .i64 ((rd_T44 t540 (rd t558 x59_3)).f1))) (fun _ hk => hk.2) (.int .i64 ((rd_T44 t540 (rd t558 x59_3)).f2))) (fun _ hk => ⟨hk.1.1, hk.1.2⟩)⟩
                          have n5_ : Aside0 ((((w52.setCell ⟨gb566, 0, none⟩ (.int .i64 ((rd_T44 t540 (rd t558 x59_3)).f0))).setCell ⟨gb566, 1, none⟩ (.int .i64 ((rd_T44 t540 (rd t558 x59_3)).f1))).setCell ⟨gb566, 2, none⟩ (.int .i64 ((rd_T44 t540 (rd t558 x59_3)).f2))).heap[gb566]? = some (.cells #[.int .i64 ((rd_T44 t540 (rd t558 x59_3)).f0), .int .i64 ((rd_T44 t540 (rd t558 x59_3)).f1), .int .i64 ((rd_T44 t540 (rd t558 x59_3)).f2)] 44 (0, 0))) := ⟨by (with_reducible repeat (first | refine blk_drewN ?_ _ | refine blk_drew ?_ | refine blk_alloc ?_ _)); refine blk_put (cs := #[.int .i64 ((rd_T44 t540 (rd t558 x59_3)).f0), .int .i64 ((rd_T44 t540 (rd t558 x59_3)).f1), .int .i64 0]) ?_ 2 _ rfl; (with_reducible repeat (first | refine blk_drewN ?_ _ | refine blk_drew ?_ | refine blk_alloc ?_ _)); refine blk_put (cs := #[.int .i64 ((rd_T44 t540 (rd t558 x59_3)).f0), .int .i64 0, .int .i64 0]) ?_ 1 _ rfl; (with_reducible repeat (first | refine blk_drewN ?_ _ | refine blk_drew ?_ | refine blk_alloc ?_ _)); refine blk_put (cs := #[.int .i64 0, .int .i64 0, .int .i64 0]) ?_ 0 _ rfl; (with_reducible repeat (first | refine blk_drewN ?_ _ | refine blk_drew ?_ | refine blk_alloc ?_ _)); exact BK566.out⟩
                          have n6_ : Aside0 (Below w.heap.size w (((w52.setCell ⟨gb566, 0, none⟩ (.int .i64 ((rd_T44 t540 (rd t558 x59_3)).f0))).setCell ⟨gb566, 1, none⟩ (.int .i64 ((rd_T44 t540 (rd t558 x59_3)).f1))).setCell ⟨gb566, 2, none⟩ (.int .i64 ((rd_T44 t540 (rd t558 x59_3)).f2)))) := ⟨bw HB.out⟩
                          (try clear HO_4)
                          (try clear HO_6)
                          (try clear HO_7)
                          (try clear HO_8)
                          (try clear HO_57)
                          (try clear BK566)
                          (try clear HB)
                          generalize (((w52.setCell ⟨gb566, 0, none⟩ (.int .i64 ((rd_T44 t540 (rd t558 x59_3)).f0))).setCell ⟨gb566, 1, none⟩ (.int .i64 ((rd_T44 t540 (rd t558 x59_3)).f1))).setCell ⟨gb566, 2, none⟩ (.int .i64 ((rd_T44 t540 (rd t558 x59_3)).f2))) = w54 at n0_ n1_ n2_ n3_ n4_ n5_ n6_ ⊢
                          have HO_4 := n0_
                          have HO_6 := n1_
                          have HO_7 := n2_
                          have HO_8 := n3_
                          have HO_57 := n4_
                          have BK566 := n5_
                          have HB := n6_
                          clear n0_ n1_ n2_ n3_ n4_ n5_ n6_
                          have n0_ := Aside0.mk (Kd.R_drew HO_4.out)
                          have n1_ := Aside0.mk (Kd.R_drew HO_6.out)
                          have n2_ := Aside0.mk (Kd.R_drew HO_7.out)
                          have n3_ := Aside0.mk (Kd.R_drew HO_8.out)
                          have n4_ := Aside0.mk (Kd.R_drew HO_57.out)
                          have n5_ := Aside0.mk (blk_drew BK566.out)
                          have n6_ := Aside0.mk (below_drew1 HB.out)
                          clear HO_4
                          clear HO_6
                          clear HO_7
                          clear HO_8
                          clear HO_57
                          clear BK566
                          clear HB
                          have HO_4 := n0_
                          have HO_6 := n1_
                          have HO_7 := n2_
                          have HO_8 := n3_
                          have HO_57 := n4_
                          have BK566 := n5_
                          have HB := n6_
                          clear n0_ n1_ n2_ n3_ n4_ n5_ n6_
                          have p567 : 0 ≤ ((ji41) : Int) := od
                          have q567 : (ji41) < (t544.length : Int) := od
                          obtain ⟨ad567, e567, hx567_0⟩ := Kd.at_int (Kd.R_reads' HO_6.out).2.2 (ji41) p567 q567
                          cases e567
                          replace p567 := eq_true p567
                          replace q567 := eq_true q567
                          have p568 : 0 ≤ (x9_2 : Int) := od
                          have q568 : x9_2 < (t544.length : Int) := od
                          obtain ⟨ad568, e568, hx568_0⟩ := Kd.at_int (Kd.R_reads' HO_6.out).2.2 x9_2 p568 q568
                          obtain rfl : ad567 = ad568 := (by injection e568)
                          replace p568 := eq_true p568
                          replace q568 := eq_true q568
                          have p569 : 0 ≤ (x9_2 : Int) := od
                          have q569 : x9_2 < (t544.length : Int) := od
                          obtain ⟨ad569, e569, hx569_0⟩ := Kd.at_int (Kd.R_reads' HO_6.out).2.2 x9_2 p569 q569
                          obtain rfl : ad567 = ad569 := (by injection e569)
                          replace p569 := eq_true p569
                          replace q569 := eq_true q569
                          have p570 : 0 ≤ (x9_2 : Int) := od
                          have q570 : x9_2 < (t544.length : Int) := od
                          obtain ⟨ad570, e570, hx570_0⟩ := Kd.at_int (Kd.R_reads' HO_6.out).2.2 x9_2 p570 q570
                          obtain rfl : ad567 = ad570 := (by injection e570)
                          replace p570 := eq_true p570
                          replace q570 := eq_true q570
                          obtain ⟨Ao56, co56, eo56⟩ := Kd.R_slice HO_7.out
                          (first | subst eo56 | (injection eo56 with f1_ f2_ f3_; have f4_ := f1_.symm; have f5_ := f3_.symm; clear f1_ f2_ f3_; subst f4_; subst f5_))
                          have p571 : 0 ≤ ((rd t544 x9_2) : Int) := od
                          have q571 : (rd t544 x9_2) < (t555.length : Int) := od
                          obtain ⟨ad571, e571, hx571_0⟩ := Kd.at_int (Kd.R_reads' HO_7.out).2.2 (rd t544 x9_2) p571 q571
                          cases e571
                          replace p571 := eq_true p571
                          replace q571 := eq_true q571
                          have p572 : 0 ≤ ((ji41) : Int) := od
                          have q572 : (ji41) < (t544.length : Int) := od
                          obtain ⟨ad572, e572, hx572_0⟩ := Kd.at_int (Kd.R_reads' HO_6.out).2.2 (ji41) p572 q572
                          obtain rfl : ad567 = ad572 := (by injection e572)
                          replace p572 := eq_true p572
                          replace q572 := eq_true q572
                          have p573 : 0 ≤ ((rd t544 (ji41)) : Int) := od
                          have q573 : (rd t544 (ji41)) < (t555.length : Int) := od
                          obtain ⟨ad573, e573, hx573_0⟩ := Kd.at_int (Kd.R_reads' HO_7.out).2.2 (rd t544 (ji41)) p573 q573
                          obtain rfl : ad571 = ad573 := (by injection e573)
                          replace p573 := eq_true p573
                          replace q573 := eq_true q573
                          refine start_ (n := 59) (S := fun w' => w'.cell? ⟨gb566, 0, none⟩ = some (.int .i64 ((rd_T44 t540 (rd t558 x59_3)).f0)) ∧ w'.cell? ⟨gb566, 1, none⟩ = some (.int .i64 ((rd_T44 t540 (rd t558 x59_3)).f1)) ∧ w'.cell? ⟨gb566, 2, none⟩ = some (.int .i64 ((rd_T44 t540 (rd t558 x59_3)).f2)) ∧ w'.cell? (ad567.add ((ji41)).toNat) = some (.int .i64 (rd t544 (ji41))) ∧ w'.cell? (ad567.add (x9_2).toNat) = some (.int .i64 (rd t544 x9_2)) ∧ w'.cell? (ad567.add (x9_2).toNat) = some (.int .i64 (rd t544 x9_2)) ∧ w'.cell? (ad567.add (x9_2).toNat) = some (.int .i64 (rd t544 x9_2)) ∧ w'.cell? (ad571.add ((rd t544 x9_2)).toNat) = some (.int .i64 (rd t555 (rd t544 x9_2))) ∧ w'.cell? (ad567.add ((ji41)).toNat) = some (.int .i64 (rd t544 (ji41))) ∧ w'.cell? (ad571.add ((rd t544 (ji41))).toNat) = some (.int .i64 (rd t555 (rd t544 (ji41))))) (ds := []) (bl 59 0) (by kernel_rfl) rfl (by kernel_rfl) ⟨(blk_cell BK566.out 0).trans rfl, (blk_cell BK566.out 1).trans rfl, (blk_cell BK566.out 2).trans rfl, hx567_0, hx568_0, hx569_0, hx570_0, hx571_0, hx572_0, hx573_0⟩ (fun hHeld => ?_); refine with_tabW laws_FnWayUp.tab17 laws_FnWayUp.bits17 (fun HT_ HW_ => ?_)
                          generalize w54.drew = w55 at HO_4 HO_6 HO_7 HO_8 HO_57 BK566 HB hx567_0 hx568_0 hx569_0 hx570_0 hx571_0 hx572_0 hx573_0 hHeld ⊢
                          refine pA 0 (some 67) (bl 59 1) HT_ (h := ?_)
                          refine pA 1 (some 68) (bl 59 3) HT_ (h := ?_)
                          refine pA 2 (some 69) (bl 59 7) HT_ (h := ?_)
                          refine pA 4 (some 71) (bl 59 23) HT_ (h := ?_)
                          refine pA 7 (some 74) (bl 59 151) HT_ (h := ?_)
                          refine pA 8 (some 75) (bl 59 407) HT_ (h := ?_)
                          refine pA 9 (some 76) (bl 59 919) HT_ (h := ?_)
                          refine pA 10 (some 77) (bl 59 1943) HT_ (h := ?_)
                          refine pA 12 (some 79) (bl 59 6039) HT_ (h := ?_)
                          refine pA 13 (some 80) (bl 59 14231) HT_ (h := ?_)
                          refine pA 14 (some 81) (bl 59 30615) HT_ (h := ?_)
                          refine tA 3 (some 70) (bl 59 30623) HT_ HW_ hHeld (h := ?_)
                          refine tA 5 (some 72) (bl 59 30655) HT_ HW_ hHeld (h := ?_)
                          refine pA 6 (some 73) (bl 59 30719) HT_ (h := ?_)
                          refine tA 11 (some 78) (bl 59 32767) HT_ HW_ hHeld (h := ?_)
                          refine tA 15 (some 82) (bl 59 65535) HT_ HW_ hHeld (h := ?_)
                          refine pA 16 (some 83) (bl 59 131071) HT_ (h := ?_)
                          refine pA 17 (some 84) (bl 59 262143) HT_ (h := ?_)
                          refine pA 18 (some 85) (bl 59 524287) HT_ (h := ?_)
                          refine pA 19 (some 86) (bl 59 1048575) HT_ (h := ?_)
                          refine pA 21 (some 88) (bl 59 3145727) HT_ (h := ?_)
                          refine pA 22 (some 89) (bl 59 7340031) HT_ (h := ?_)
                          refine pA 23 (some 90) (bl 59 15728639) HT_ (h := ?_)
                          refine tA 20 (some 87) (bl 59 16777215) HT_ HW_ hHeld (h := ?_)
                          refine tA 24 (some 91) (bl 59 33554431) HT_ HW_ hHeld (h := ?_)
                          refine pA 25 (some 92) (bl 59 67108863) HT_ (h := ?_)
                          refine pA 26 (some 93) (bl 59 134217727) HT_ (h := ?_)
                          refine pO 27 (some 94) (bl 59 268435455) HT_ (h := ?_)
                          refine pO 28 (some 95) (bl 59 536870911) HT_ (h := ?_)
                          refine pO 29 (some 96) (bl 59 1073741823) HT_ (h := ?_)
                          refine pO 30 (some 97) (bl 59 2147483647) HT_ (h := ?_)
                          refine pO 31 (some 98) (bl 59 4294967295) HT_ (h := ?_)
                          refine pO 32 (some 99) (bl 59 8589934591) HT_ (h := ?_)
                          refine pO 33 (some 100) (bl 59 17179869183) HT_ (h := ?_)
                          refine pA 34 (some 101) (bl 59 34359738367) HT_ (h := ?_)
                          refine pA 35 (some 102) (bl 59 68719476735) HT_ (h := ?_)
                          refine pA 36 (some 103) (bl 59 137438953471) HT_ (h := ?_)
                          refine pA 37 (some 104) (bl 59 274877906943) HT_ (h := ?_)
                          refine pA 38 (some 105) (bl 59 549755813887) HT_ (h := ?_)
                          refine pA 39 (some 106) (bl 59 1099511627775) HT_ (h := ?_)
                          refine pA 40 (some 107) (bl 59 2199023255551) HT_ (h := ?_)
                          refine pA 44 (some 111) (bl 59 19791209299967) HT_ (h := ?_)
                          refine pA 47 (some 114) (bl 59 160528697655295) HT_ (h := ?_)
                          refine pA 48 (some 115) (bl 59 442003674365951) HT_ (h := ?_)
                          refine pA 49 (some 116) (bl 59 1004953627787263) HT_ (h := ?_)
                          refine pA 50 (some 117) (bl 59 2130853534629887) HT_ (h := ?_)
                          refine pA 51 (some 118) (bl 59 4382653348315135) HT_ (h := ?_)
                          refine tA 41 (some 108) (bl 59 4384852371570687) HT_ HW_ hHeld (h := ?_)
                          refine pA 42 (some 109) (bl 59 4389250418081791) HT_ (h := ?_)
                          refine tA 43 (some 110) (bl 59 4398046511103999) HT_ HW_ hHeld (h := ?_)
                          refine tA 45 (some 112) (bl 59 4433230883192831) HT_ HW_ hHeld (h := ?_)
                          refine pA 46 (some 113) (bl 59 4503599627370495) HT_ (h := ?_)
                          refine tA 52 (some 119) (bl 59 9007199254740991) HT_ HW_ hHeld (h := ?_)
                          refine pA 53 (some 120) (bl 59 18014398509481983) HT_ (h := ?_)
                          refine tA 54 (some 121) (bl 59 36028797018963967) HT_ HW_ hHeld (h := ?_)
                          refine pA 55 (some 122) (bl 59 72057594037927935) HT_ (h := ?_)
                          refine pA 56 (some 123) (bl 59 144115188075855871) HT_ (h := ?_)
                          refine pA 57 (some 124) (bl 59 288230376151711743) HT_ (h := ?_)
                          refine pA 58 (some 10) (bl 59 576460752303423487) HT_ (h := ?_)
                          refine done_ (done_of HT_.out (by kernel_rfl)) ?_
                          try go_wp2
                          go_roundg k3
                          case measure => have := HJ4.out; have := HK2.out; have := HK3.out; omega
                          case rel => exact ⟨(((wrap64 ((rd t555 (rd t544 x9_2)) + ((rd_T44 t540 (rd t558 x59_3)).f2))) == (rd t555 (rd t544 (ji41))))), (wrap64 (x59_3 + 1)), (by first | rfl | (simp; done) | (simp only [← hji41] <;> (first | rfl | simp)) | (simp [*]; done)), fs, H', ⟨by have := HJ4.out; have := HK2.out; have := HK3.out; omega⟩, ⟨by (with_reducible repeat (first | apply Kd.R_alloc | apply Kd.R_drewN | apply Kd.R_drew)); exact Kd.R_mono HO_4.out (fun _ hk => trivial)⟩, ⟨ru HO_6.out⟩, ⟨ru HO_7.out⟩, ⟨ru HO_8.out⟩, ⟨ru HO_57.out⟩, ⟨bw HB.out⟩⟩
                         ·rw [if_neg c51] at H
                          exact absurd H (by simp)
                        ·rw [if_neg c50] at H
                         exact absurd H (by simp)
                       ·rw [if_neg c49] at H
                        exact absurd H (by simp)
                      ·rw [if_neg c48] at H
                       exact absurd H (by simp)
                     ·rw [if_neg c47] at H
                      have c47b0 : (((rd_T44 t540 (rd t558 x59_3)).f0) == (rd t544 x9_2)) = false := beq_eq_false_iff_ne.mpr c47
                      have c47b1 : (((rd_T44 t540 (rd t558 x59_3)).f0) != (rd t544 x9_2)) = true := bne_iff_ne.mpr c47
                      by_cases c57 : ((rd_T44 t540 (rd t558 x59_3)).f1) = (rd t544 x9_2)
                      ·rw [if_pos c57] at H
                       have c57b0 : (((rd_T44 t540 (rd t558 x59_3)).f1) == (rd t544 x9_2)) = true := beq_iff_eq.mpr c57
                       have c57b1 : (((rd_T44 t540 (rd t558 x59_3)).f1) != (rd t544 x9_2)) = false := bne_eq_false_iff_eq.mpr c57
                       clear c57
                       by_cases c58 : 0 ≤ (rd t544 x9_2)
                       ·rw [if_pos c58] at H
                        have c58b0 : decide (0 ≤ (rd t544 x9_2)) = true := decide_eq_true c58
                        clear c58
                        by_cases c59 : (rd t544 x9_2) < (t555.length : Int)
                        ·rw [if_pos c59] at H
                         have c59b0 : decide ((rd t544 x9_2) < (t555.length : Int)) = true := decide_eq_true c59
                         clear c59
                         by_cases c60 : 0 ≤ (rd t544 (ji41))
                         ·rw [if_pos c60] at H
                          have c60b0 : decide (0 ≤ (rd t544 (ji41))) = true := decide_eq_true c60
                          clear c60
                          by_cases c61 : (rd t544 (ji41)) < (t555.length : Int)
                          ·rw [if_pos c61] at H
                           have c61b0 : decide ((rd t544 (ji41)) < (t555.length : Int)) = true := decide_eq_true c61
                           clear c61
                           have H' := Aside0.mk H
                           clear H
                           have p564 : 0 ≤ (x59_3 : Int) := od
                           have q564 : x59_3 < (t558.length : Int) := od
                           obtain ⟨ad564, e564, hx564_0⟩ := Kd.at_int (Kd.R_reads' HO_57.out).2.2 x59_3 p564 q564
                           cases e564
                           replace p564 := eq_true p564
                           replace q564 := eq_true q564
                           have p565 : 0 ≤ ((rd t558 x59_3) : Int) := od
                           have q565 : (rd t558 x59_3) < (t540.length : Int) := od
                           obtain ⟨ad565, e565, hx565_0, hx565_1, hx565_2⟩ := at_T44 (Kd.R_reads' HO_4.out).2.2 (rd t558 x59_3) p565 q565
                           cases e565
                           replace p565 := eq_true p565
                           replace q565 := eq_true q565
                           try go_wp2_with (first | ((with_reducible refine gate_dst (N := 13) rfl ?_); (try (refine gate_guard (by rfl) ?_; dsimp only)); refine box_event ?hg (N := 13) ?hd (cs := #[.int .i64 0, .int .i64 0, .int .i64 0]) (t := 44) ?hr ?_; (case hd => rfl); (case hg => rfl); (case hr => first | (go_simp; done) | (go_simp; rfl)); intro gb566 hg w62 hbox hb; have n0_ := Aside0.mk (Kd.R_below (Kd.R_elderB (ru HO_4.out) gb566 (Nat.le_of_eq hg.symm)) hb); have n1_ := Aside0.mk (Kd.R_below (ru HO_6.out) hb); have n2_ := Aside0.mk (Kd.R_below (ru HO_7.out) hb); have n3_ := Aside0.mk (Kd.R_below (ru HO_8.out) hb); have n4_ := Aside0.mk (Kd.R_below (ru HO_57.out) hb); have n5_ := Aside0.mk (below_step (bw HB.out) hb); have n6_ := Aside0.mk (hbox); have n7_ := Aside0.mk ((by rw [hg]; exact (below_size (bw HB.out)) : w.heap.size ≤ gb566)); have n8_ := Aside0.mk ((by rw [hg]; exact (below_size (bw HB.out)) : w.heap.size ≤ gb566)); clear HO_4; clear HO_6; clear HO_7; clear HO_8; clear HO_57; clear HB; have HO_4 := n0_; have HO_6 := n1_; have HO_7 := n2_; have HO_8 := n3_; have HO_57 := n4_; have HB := n5_; have BK566 := n6_; have GW566 := n7_; have GE566 := n8_; clear n0_ n1_ n2_ n3_ n4_ n5_ n6_ n7_ n8_; clear hb hbox hg; have hcz63_0 : w62.cell? ⟨gb566, 0, none⟩ = some (.int .i64 0) := (blk_cell BK566.out 0).trans rfl; have hcz63_1 : w62.cell? ⟨gb566, 1, none⟩ = some (.int .i64 0) := (blk_cell BK566.out 1).trans rfl; have hcz63_2 : w62.cell? ⟨gb566, 2, none⟩ = some (.int .i64 0) := (blk_cell BK566.out 2).trans rfl; have hfz63_0 := blk_frozen BK566.out 0; have hfz63_1 := blk_frozen BK566.out 1; have hfz63_2 := blk_frozen BK566.out 2))
                           have n0_ : Aside0 (Kd.R k44 44 (((w62.setCell ⟨gb566, 0, none⟩ (.int .i64 ((rd_T44 t540 (rd t558 x59_3)).f0))).setCell ⟨gb566, 1, none⟩ (.int .i64 ((rd_T44 t540 (rd t558 x59_3)).f1))).setCell ⟨gb566, 2, none⟩ (.int .i64 ((rd_T44 t540 (rd t558 x59_3)).f2))) w.heap.size (fun k_ => k_ ≠ gb566) (.slice (some ad565) t540.length co7) t540) := ⟨by (with_reducible repeat (first | apply Kd.R_alloc | apply Kd.R_drewN | apply Kd.R_drew)); exact Kd.R_mono (Kd.R_far (p := ⟨gb566, 2, none⟩) (Kd.R_far (p := ⟨gb566, 1, none⟩) (Kd.R_far (p := ⟨gb566, 0, none⟩) (Kd.R_mono HO_4.out (fun k_ hk => (⟨hk, hk.2⟩ : _ ∧ k_ ≠ gb566))) (fun _ hk => hk.2) (.int .i64 ((rd_T44 t540 (rd t558 x59_3)).f0))) (fun _ hk => hk.2) (.int .i64 ((rd_T44 t540 (rd t558 x59_3)).f1))) (fun _ hk => hk.2) (.int .i64 ((rd_T44 t540 (rd t558 x59_3)).f2))) (fun _ hk => hk.1.2)⟩
                           have n1_ : Aside0 (Kd.R (Kd.int .i64) 3 (((w62.setCell ⟨gb566, 0, none⟩ (.int .i64 ((rd_T44 t540 (rd t558 x59_3)).f0))).setCell ⟨gb566, 1, none⟩ (.int .i64 ((rd_T44 t540 (rd t558 x59_3)).f1))).setCell ⟨gb566, 2, none⟩ (.int .i64 ((rd_T44 t540 (rd t558 x59_3)).f2))) w.heap.size (fun k_ => some k_ ≠ (v556 : Value).ownBlock ∧ some k_ ≠ (.slice (some ad564) t558.length co30 : Value).ownBlock ∧ some k_ ≠ (.slice (some ad564) t558.length co30 : Value).ownBlock) (.slice Ao29 t544.length co29) t544) := ⟨by (with_reducible repeat (first | apply Kd.R_alloc | apply Kd.R_drewN | apply Kd.R_drew)); exact Kd.R_mono (Kd.R_far (p := ⟨gb566, 2, none⟩) (Kd.R_far (p := ⟨gb566, 1, none⟩) (Kd.R_far (p := ⟨gb566, 0, none⟩) (Kd.R_types HO_6.out BK566.out (by decide)) (fun _ hk => hk.2) (.int .i64 ((rd_T44 t540 (rd t558 x59_3)).f0))) (fun _ hk => hk.2) (.int .i64 ((rd_T44 t540 (rd t558 x59_3)).f1))) (fun _ hk => hk.2) (.int .i64 ((rd_T44 t540 (rd t558 x59_3)).f2))) (fun _ hk => ⟨hk.1.1, ⟨hk.1.2.1, hk.1.2.2⟩⟩)⟩
                           have n2_ : Aside0 (Kd.R (Kd.int .i64) 3 (((w62.setCell ⟨gb566, 0, none⟩ (.int .i64 ((rd_T44 t540 (rd t558 x59_3)).f0))).setCell ⟨gb566, 1, none⟩ (.int .i64 ((rd_T44 t540 (rd t558 x59_3)).f1))).setCell ⟨gb566, 2, none⟩ (.int .i64 ((rd_T44 t540 (rd t558 x59_3)).f2))) w.heap.size (fun k_ => some k_ ≠ (.slice Ao29 t544.length co29 : Value).ownBlock ∧ some k_ ≠ (.slice (some ad564) t558.length co30 : Value).ownBlock ∧ some k_ ≠ (.slice (some ad564) t558.length co30 : Value).ownBlock) v556 t555) := ⟨by (with_reducible repeat (first | apply Kd.R_alloc | apply Kd.R_drewN | apply Kd.R_drew)); exact Kd.R_mono (Kd.R_far (p := ⟨gb566, 2, none⟩) (Kd.R_far (p := ⟨gb566, 1, none⟩) (Kd.R_far (p := ⟨gb566, 0, none⟩) (Kd.R_types HO_7.out BK566.out (by decide)) (fun _ hk => hk.2) (.int .i64 ((rd_T44 t540 (rd t558 x59_3)).f0))) (fun _ hk => hk.2) (.int .i64 ((rd_T44 t540 (rd t558 x59_3)).f1))) (fun _ hk => hk.2) (.int .i64 ((rd_T44 t540 (rd t558 x59_3)).f2))) (fun _ hk => ⟨hk.1.1, ⟨hk.1.2.1, hk.1.2.2⟩⟩)⟩
                           have n3_ : Aside0 (Kd.R (Kd.int .i64) 3 (((w62.setCell ⟨gb566, 0, none⟩ (.int .i64 ((rd_T44 t540 (rd t558 x59_3)).f0))).setCell ⟨gb566, 1, none⟩ (.int .i64 ((rd_T44 t540 (rd t558 x59_3)).f1))).setCell ⟨gb566, 2, none⟩ (.int .i64 ((rd_T44 t540 (rd t558 x59_3)).f2))) w.heap.size (fun k_ => some k_ ≠ (.slice Ao29 t544.length co29 : Value).ownBlock ∧ some k_ ≠ (v556 : Value).ownBlock) (.slice (some ad564) t558.length co30) t558) := ⟨by (with_reducible repeat (first | apply Kd.R_alloc | apply Kd.R_drewN | apply Kd.R_drew)); exact Kd.R_mono (Kd.R_far (p := ⟨gb566, 2, none⟩) (Kd.R_far (p := ⟨gb566, 1, none⟩) (Kd.R_far (p := ⟨gb566, 0, none⟩) (Kd.R_types HO_8.out BK566.out (by decide)) (fun _ hk => hk.2) (.int .i64 ((rd_T44 t540 (rd t558 x59_3)).f0))) (fun _ hk => hk.2) (.int .i64 ((rd_T44 t540 (rd t558 x59_3)).f1))) (fun _ hk => hk.2) (.int .i64 ((rd_T44 t540 (rd t558 x59_3)).f2))) (fun _ hk => ⟨hk.1.1, hk.1.2⟩)⟩
                           have n4_ : Aside0 (Kd.R (Kd.int .i64) 3 (((w62.setCell ⟨gb566, 0, none⟩ (.int .i64 ((rd_T44 t540 (rd t558 x59_3)).f0))).setCell ⟨gb566, 1, none⟩ (.int .i64 ((rd_T44 t540 (rd t558 x59_3)).f1))).setCell ⟨gb566, 2, none⟩ (.int .i64 ((rd_T44 t540 (rd t558 x59_3)).f2))) w.heap.size (fun k_ => some k_ ≠ (.slice Ao29 t544.length co29 : Value).ownBlock ∧ some k_ ≠ (v556 : Value).ownBlock) (.slice (some ad564) t558.length co30) t558) := ⟨by (with_reducible repeat (first | apply Kd.R_alloc | apply Kd.R_drewN | apply Kd.R_drew)); exact Kd.R_mono (Kd.R_far (p := ⟨gb566, 2, none⟩) (Kd.R_far (p := ⟨gb566, 1, none⟩) (Kd.R_far (p := ⟨gb566, 0, none⟩) (Kd.R_types HO_57.out BK566.out (by decide)) (fun _ hk => hk.2) (.int .i64 ((rd_T44 t540 (rd t558 x59_3)).f0))) (fun _ hk => hk.2) (.int .i64 ((rd_T44 t540 (rd t558 x59_3)).f1))) (fun _ hk => hk.2) (.int .i64 ((rd_T44 t540 (rd t558 x59_3)).f2))) (fun _ hk => ⟨hk.1.1, hk.1.2⟩)⟩
                           have n5_ : Aside0 ((((w62.setCell ⟨gb566, 0, none⟩ (.int .i64 ((rd_T44 t540 (rd t558 x59_3)).f0))).setCell ⟨gb566, 1, none⟩ (.int .i64 ((rd_T44 t540 (rd t558 x59_3)).f1))).setCell ⟨gb566, 2, none⟩ (.int .i64 ((rd_T44 t540 (rd t558 x59_3)).f2))).heap[gb566]? = some (.cells #[.int .i64 ((rd_T44 t540 (rd t558 x59_3)).f0), .int .i64 ((rd_T44 t540 (rd t558 x59_3)).f1), .int .i64 ((rd_T44 t540 (rd t558 x59_3)).f2)] 44 (0, 0))) := ⟨by (with_reducible repeat (first | refine blk_drewN ?_ _ | refine blk_drew ?_ | refine blk_alloc ?_ _)); refine blk_put (cs := #[.int .i64 ((rd_T44 t540 (rd t558 x59_3)).f0), .int .i64 ((rd_T44 t540 (rd t558 x59_3)).f1), .int .i64 0]) ?_ 2 _ rfl; (with_reducible repeat (first | refine blk_drewN ?_ _ | refine blk_drew ?_ | refine blk_alloc ?_ _)); refine blk_put (cs := #[.int .i64 ((rd_T44 t540 (rd t558 x59_3)).f0), .int .i64 0, .int .i64 0]) ?_ 1 _ rfl; (with_reducible repeat (first | refine blk_drewN ?_ _ | refine blk_drew ?_ | refine blk_alloc ?_ _)); refine blk_put (cs := #[.int .i64 0, .int .i64 0, .int .i64 0]) ?_ 0 _ rfl; (with_reducible repeat (first | refine blk_drewN ?_ _ | refine blk_drew ?_ | refine blk_alloc ?_ _)); exact BK566.out⟩
                           have n6_ : Aside0 (Below w.heap.size w (((w62.setCell ⟨gb566, 0, none⟩ (.int .i64 ((rd_T44 t540 (rd t558 x59_3)).f0))).setCell ⟨gb566, 1, none⟩ (.int .i64 ((rd_T44 t540 (rd t558 x59_3)).f1))).setCell ⟨gb566, 2, none⟩ (.int .i64 ((rd_T44 t540 (rd t558 x59_3)).f2)))) := ⟨bw HB.out⟩
                           (try clear HO_4)
                           (try clear HO_6)
                           (try clear HO_7)
                           (try clear HO_8)
                           (try clear HO_57)
                           (try clear BK566)
                           (try clear HB)
                           generalize (((w62.setCell ⟨gb566, 0, none⟩ (.int .i64 ((rd_T44 t540 (rd t558 x59_3)).f0))).setCell ⟨gb566, 1, none⟩ (.int .i64 ((rd_T44 t540 (rd t558 x59_3)).f1))).setCell ⟨gb566, 2, none⟩ (.int .i64 ((rd_T44 t540 (rd t558 x59_3)).f2))) = w64 at n0_ n1_ n2_ n3_ n4_ n5_ n6_ ⊢
                           have HO_4 := n0_
                           have HO_6 := n1_
                           have HO_7 := n2_
                           have HO_8 := n3_
                           have HO_57 := n4_
                           have BK566 := n5_
                           have HB := n6_
                           clear n0_ n1_ n2_ n3_ n4_ n5_ n6_
                           have n0_ := Aside0.mk (Kd.R_drew HO_4.out)
                           have n1_ := Aside0.mk (Kd.R_drew HO_6.out)
                           have n2_ := Aside0.mk (Kd.R_drew HO_7.out)
                           have n3_ := Aside0.mk (Kd.R_drew HO_8.out)
                           have n4_ := Aside0.mk (Kd.R_drew HO_57.out)
                           have n5_ := Aside0.mk (blk_drew BK566.out)
                           have n6_ := Aside0.mk (below_drew1 HB.out)
                           clear HO_4
                           clear HO_6
                           clear HO_7
                           clear HO_8
                           clear HO_57
                           clear BK566
                           clear HB
                           have HO_4 := n0_
                           have HO_6 := n1_
                           have HO_7 := n2_
                           have HO_8 := n3_
                           have HO_57 := n4_
                           have BK566 := n5_
                           have HB := n6_
                           clear n0_ n1_ n2_ n3_ n4_ n5_ n6_
                           have p567 : 0 ≤ ((ji41) : Int) := od
                           have q567 : (ji41) < (t544.length : Int) := od
                           obtain ⟨ad567, e567, hx567_0⟩ := Kd.at_int (Kd.R_reads' HO_6.out).2.2 (ji41) p567 q567
                           cases e567
                           replace p567 := eq_true p567
                           replace q567 := eq_true q567
                           have p568 : 0 ≤ (x9_2 : Int) := od
                           have q568 : x9_2 < (t544.length : Int) := od
                           obtain ⟨ad568, e568, hx568_0⟩ := Kd.at_int (Kd.R_reads' HO_6.out).2.2 x9_2 p568 q568
                           obtain rfl : ad567 = ad568 := (by injection e568)
                           replace p568 := eq_true p568
                           replace q568 := eq_true q568
                           have p569 : 0 ≤ (x9_2 : Int) := od
                           have q569 : x9_2 < (t544.length : Int) := od
                           obtain ⟨ad569, e569, hx569_0⟩ := Kd.at_int (Kd.R_reads' HO_6.out).2.2 x9_2 p569 q569
                           obtain rfl : ad567 = ad569 := (by injection e569)
                           replace p569 := eq_true p569
                           replace q569 := eq_true q569
                           have p574 : 0 ≤ (x9_2 : Int) := od
                           have q574 : x9_2 < (t544.length : Int) := od
                           obtain ⟨ad574, e574, hx574_0⟩ := Kd.at_int (Kd.R_reads' HO_6.out).2.2 x9_2 p574 q574
                           obtain rfl : ad567 = ad574 := (by injection e574)
                           replace p574 := eq_true p574
                           replace q574 := eq_true q574
                           have p575 : 0 ≤ (x9_2 : Int) := od
                           have q575 : x9_2 < (t544.length : Int) := od
                           obtain ⟨ad575, e575, hx575_0⟩ := Kd.at_int (Kd.R_reads' HO_6.out).2.2 x9_2 p575 q575
                           obtain rfl : ad567 = ad575 := (by injection e575)
                           replace p575 := eq_true p575
                           replace q575 := eq_true q575
                           obtain ⟨Ao66, co66, eo66⟩ := Kd.R_slice HO_7.out
                           (first | subst eo66 | (injection eo66 with f1_ f2_ f3_; have f4_ := f1_.symm; have f5_ := f3_.symm; clear f1_ f2_ f3_; subst f4_; subst f5_))
                           have p576 : 0 ≤ ((rd t544 x9_2) : Int) := od
                           have q576 : (rd t544 x9_2) < (t555.length : Int) := od
                           obtain ⟨ad576, e576, hx576_0⟩ := Kd.at_int (Kd.R_reads' HO_7.out).2.2 (rd t544 x9_2) p576 q576
                           cases e576
                           replace p576 := eq_true p576
                           replace q576 := eq_true q576
                           have p577 : 0 ≤ ((ji41) : Int) := od
                           have q577 : (ji41) < (t544.length : Int) := od
                           obtain ⟨ad577, e577, hx577_0⟩ := Kd.at_int (Kd.R_reads' HO_6.out).2.2 (ji41) p577 q577
                           obtain rfl : ad567 = ad577 := (by injection e577)
                           replace p577 := eq_true p577
                           replace q577 := eq_true q577
                           have p578 : 0 ≤ ((rd t544 (ji41)) : Int) := od
                           have q578 : (rd t544 (ji41)) < (t555.length : Int) := od
                           obtain ⟨ad578, e578, hx578_0⟩ := Kd.at_int (Kd.R_reads' HO_7.out).2.2 (rd t544 (ji41)) p578 q578
                           obtain rfl : ad576 = ad578 := (by injection e578)
                           replace p578 := eq_true p578
                           replace q578 := eq_true q578
                           refine start_ (n := 59) (S := fun w' => w'.cell? ⟨gb566, 0, none⟩ = some (.int .i64 ((rd_T44 t540 (rd t558 x59_3)).f0)) ∧ w'.cell? ⟨gb566, 1, none⟩ = some (.int .i64 ((rd_T44 t540 (rd t558 x59_3)).f1)) ∧ w'.cell? ⟨gb566, 2, none⟩ = some (.int .i64 ((rd_T44 t540 (rd t558 x59_3)).f2)) ∧ w'.cell? (ad567.add ((ji41)).toNat) = some (.int .i64 (rd t544 (ji41))) ∧ w'.cell? (ad567.add (x9_2).toNat) = some (.int .i64 (rd t544 x9_2)) ∧ w'.cell? (ad567.add (x9_2).toNat) = some (.int .i64 (rd t544 x9_2)) ∧ w'.cell? (ad567.add (x9_2).toNat) = some (.int .i64 (rd t544 x9_2)) ∧ w'.cell? (ad567.add (x9_2).toNat) = some (.int .i64 (rd t544 x9_2)) ∧ w'.cell? (ad576.add ((rd t544 x9_2)).toNat) = some (.int .i64 (rd t555 (rd t544 x9_2))) ∧ w'.cell? (ad567.add ((ji41)).toNat) = some (.int .i64 (rd t544 (ji41))) ∧ w'.cell? (ad576.add ((rd t544 (ji41))).toNat) = some (.int .i64 (rd t555 (rd t544 (ji41))))) (ds := []) (bl 59 0) (by kernel_rfl) rfl (by kernel_rfl) ⟨(blk_cell BK566.out 0).trans rfl, (blk_cell BK566.out 1).trans rfl, (blk_cell BK566.out 2).trans rfl, hx567_0, hx568_0, hx569_0, hx574_0, hx575_0, hx576_0, hx577_0, hx578_0⟩ (fun hHeld => ?_); refine with_tabW laws_FnWayUp.tab17 laws_FnWayUp.bits17 (fun HT_ HW_ => ?_)
                           generalize w64.drew = w65 at HO_4 HO_6 HO_7 HO_8 HO_57 BK566 HB hx567_0 hx568_0 hx569_0 hx574_0 hx575_0 hx576_0 hx577_0 hx578_0 hHeld ⊢
                           refine pA 0 (some 67) (bl 59 1) HT_ (h := ?_)
                           refine pA 1 (some 68) (bl 59 3) HT_ (h := ?_)
                           refine pA 2 (some 69) (bl 59 7) HT_ (h := ?_)
                           refine pA 4 (some 71) (bl 59 23) HT_ (h := ?_)
                           refine pA 7 (some 74) (bl 59 151) HT_ (h := ?_)
                           refine pA 8 (some 75) (bl 59 407) HT_ (h := ?_)
                           refine pA 9 (some 76) (bl 59 919) HT_ (h := ?_)
                           refine pA 10 (some 77) (bl 59 1943) HT_ (h := ?_)
                           refine pA 12 (some 79) (bl 59 6039) HT_ (h := ?_)
                           refine pA 13 (some 80) (bl 59 14231) HT_ (h := ?_)
                           refine pA 14 (some 81) (bl 59 30615) HT_ (h := ?_)
                           refine tA 3 (some 70) (bl 59 30623) HT_ HW_ hHeld (h := ?_)
                           refine tA 5 (some 72) (bl 59 30655) HT_ HW_ hHeld (h := ?_)
                           refine pA 6 (some 73) (bl 59 30719) HT_ (h := ?_)
                           refine tA 11 (some 78) (bl 59 32767) HT_ HW_ hHeld (h := ?_)
                           refine tA 15 (some 82) (bl 59 65535) HT_ HW_ hHeld (h := ?_)
                           refine pA 16 (some 83) (bl 59 131071) HT_ (h := ?_)
                           refine pA 17 (some 84) (bl 59 262143) HT_ (h := ?_)
                           refine pA 18 (some 85) (bl 59 524287) HT_ (h := ?_)
                           refine pA 19 (some 86) (bl 59 1048575) HT_ (h := ?_)
                           refine pA 21 (some 88) (bl 59 3145727) HT_ (h := ?_)
                           refine pA 22 (some 89) (bl 59 7340031) HT_ (h := ?_)
                           refine pA 23 (some 90) (bl 59 15728639) HT_ (h := ?_)
                           refine tA 20 (some 87) (bl 59 16777215) HT_ HW_ hHeld (h := ?_)
                           refine tA 24 (some 91) (bl 59 33554431) HT_ HW_ hHeld (h := ?_)
                           refine pA 25 (some 92) (bl 59 67108863) HT_ (h := ?_)
                           refine pA 26 (some 93) (bl 59 134217727) HT_ (h := ?_)
                           refine pA 27 (some 94) (bl 59 268435455) HT_ (h := ?_)
                           refine pA 29 (some 96) (bl 59 805306367) HT_ (h := ?_)
                           refine pA 30 (some 97) (bl 59 1879048191) HT_ (h := ?_)
                           refine pA 31 (some 98) (bl 59 4026531839) HT_ (h := ?_)
                           refine tA 28 (some 95) (bl 59 4294967295) HT_ HW_ hHeld (h := ?_)
                           refine tA 32 (some 99) (bl 59 8589934591) HT_ HW_ hHeld (h := ?_)
                           refine pA 33 (some 100) (bl 59 17179869183) HT_ (h := ?_)
                           refine pA 34 (some 101) (bl 59 34359738367) HT_ (h := ?_)
                           refine pA 35 (some 102) (bl 59 68719476735) HT_ (h := ?_)
                           refine pA 36 (some 103) (bl 59 137438953471) HT_ (h := ?_)
                           refine pA 37 (some 104) (bl 59 274877906943) HT_ (h := ?_)
                           refine pA 38 (some 105) (bl 59 549755813887) HT_ (h := ?_)
                           refine pA 39 (some 106) (bl 59 1099511627775) HT_ (h := ?_)
                           refine pA 40 (some 107) (bl 59 2199023255551) HT_ (h := ?_)
                           refine pA 44 (some 111) (bl 59 19791209299967) HT_ (h := ?_)
                           refine pA 47 (some 114) (bl 59 160528697655295) HT_ (h := ?_)
                           refine pA 48 (some 115) (bl 59 442003674365951) HT_ (h := ?_)
                           refine pA 49 (some 116) (bl 59 1004953627787263) HT_ (h := ?_)
                           refine pA 50 (some 117) (bl 59 2130853534629887) HT_ (h := ?_)
                           refine pA 51 (some 118) (bl 59 4382653348315135) HT_ (h := ?_)
                           refine tA 41 (some 108) (bl 59 4384852371570687) HT_ HW_ hHeld (h := ?_)
                           refine pA 42 (some 109) (bl 59 4389250418081791) HT_ (h := ?_)
                           refine tA 43 (some 110) (bl 59 4398046511103999) HT_ HW_ hHeld (h := ?_)
                           refine tA 45 (some 112) (bl 59 4433230883192831) HT_ HW_ hHeld (h := ?_)
                           refine pA 46 (some 113) (bl 59 4503599627370495) HT_ (h := ?_)
                           refine tA 52 (some 119) (bl 59 9007199254740991) HT_ HW_ hHeld (h := ?_)
                           refine pA 53 (some 120) (bl 59 18014398509481983) HT_ (h := ?_)
                           refine tA 54 (some 121) (bl 59 36028797018963967) HT_ HW_ hHeld (h := ?_)
                           refine pA 55 (some 122) (bl 59 72057594037927935) HT_ (h := ?_)
                           refine pA 56 (some 123) (bl 59 144115188075855871) HT_ (h := ?_)
                           refine pA 57 (some 124) (bl 59 288230376151711743) HT_ (h := ?_)
                           refine pA 58 (some 10) (bl 59 576460752303423487) HT_ (h := ?_)
                           refine done_ (done_of HT_.out (by kernel_rfl)) ?_
                           try go_wp2
                           go_roundg k3
                           case measure => have := HJ4.out; have := HK2.out; have := HK3.out; omega
                           case rel => exact ⟨(((wrap64 ((rd t555 (rd t544 x9_2)) + ((rd_T44 t540 (rd t558 x59_3)).f2))) == (rd t555 (rd t544 (ji41))))), (wrap64 (x59_3 + 1)), (by first | rfl | (simp; done) | (simp only [← hji41] <;> (first | rfl | simp)) | (simp [*]; done)), fs, H', ⟨by have := HJ4.out; have := HK2.out; have := HK3.out; omega⟩, ⟨by (with_reducible repeat (first | apply Kd.R_alloc | apply Kd.R_drewN | apply Kd.R_drew)); exact Kd.R_mono HO_4.out (fun _ hk => trivial)⟩, ⟨ru HO_6.out⟩, ⟨ru HO_7.out⟩, ⟨ru HO_8.out⟩, ⟨ru HO_57.out⟩, ⟨bw HB.out⟩⟩
                          ·rw [if_neg c61] at H
                           exact absurd H (by simp)
                         ·rw [if_neg c60] at H
                          exact absurd H (by simp)
                        ·rw [if_neg c59] at H
                         exact absurd H (by simp)
                       ·rw [if_neg c58] at H
                        exact absurd H (by simp)
                      ·rw [if_neg c57] at H
                       have c57b0 : (((rd_T44 t540 (rd t558 x59_3)).f1) == (rd t544 x9_2)) = false := beq_eq_false_iff_ne.mpr c57
                       have c57b1 : (((rd_T44 t540 (rd t558 x59_3)).f1) != (rd t544 x9_2)) = true := bne_iff_ne.mpr c57
                       have H' := Aside0.mk H
                       clear H
                       have p564 : 0 ≤ (x59_3 : Int) := od
                       have q564 : x59_3 < (t558.length : Int) := od
                       obtain ⟨ad564, e564, hx564_0⟩ := Kd.at_int (Kd.R_reads' HO_57.out).2.2 x59_3 p564 q564
                       cases e564
                       replace p564 := eq_true p564
                       replace q564 := eq_true q564
                       have p565 : 0 ≤ ((rd t558 x59_3) : Int) := od
                       have q565 : (rd t558 x59_3) < (t540.length : Int) := od
                       obtain ⟨ad565, e565, hx565_0, hx565_1, hx565_2⟩ := at_T44 (Kd.R_reads' HO_4.out).2.2 (rd t558 x59_3) p565 q565
                       cases e565
                       replace p565 := eq_true p565
                       replace q565 := eq_true q565
                       try go_wp2_with (first | ((with_reducible refine gate_dst (N := 13) rfl ?_); (try (refine gate_guard (by rfl) ?_; dsimp only)); refine box_event ?hg (N := 13) ?hd (cs := #[.int .i64 0, .int .i64 0, .int .i64 0]) (t := 44) ?hr ?_; (case hd => rfl); (case hg => rfl); (case hr => first | (go_simp; done) | (go_simp; rfl)); intro gb566 hg w67 hbox hb; have n0_ := Aside0.mk (Kd.R_below (Kd.R_elderB (ru HO_4.out) gb566 (Nat.le_of_eq hg.symm)) hb); have n1_ := Aside0.mk (Kd.R_below (ru HO_6.out) hb); have n2_ := Aside0.mk (Kd.R_below (ru HO_7.out) hb); have n3_ := Aside0.mk (Kd.R_below (ru HO_8.out) hb); have n4_ := Aside0.mk (Kd.R_below (ru HO_57.out) hb); have n5_ := Aside0.mk (below_step (bw HB.out) hb); have n6_ := Aside0.mk (hbox); have n7_ := Aside0.mk ((by rw [hg]; exact (below_size (bw HB.out)) : w.heap.size ≤ gb566)); have n8_ := Aside0.mk ((by rw [hg]; exact (below_size (bw HB.out)) : w.heap.size ≤ gb566)); clear HO_4; clear HO_6; clear HO_7; clear HO_8; clear HO_57; clear HB; have HO_4 := n0_; have HO_6 := n1_; have HO_7 := n2_; have HO_8 := n3_; have HO_57 := n4_; have HB := n5_; have BK566 := n6_; have GW566 := n7_; have GE566 := n8_; clear n0_ n1_ n2_ n3_ n4_ n5_ n6_ n7_ n8_; clear hb hbox hg; have hcz68_0 : w67.cell? ⟨gb566, 0, none⟩ = some (.int .i64 0) := (blk_cell BK566.out 0).trans rfl; have hcz68_1 : w67.cell? ⟨gb566, 1, none⟩ = some (.int .i64 0) := (blk_cell BK566.out 1).trans rfl; have hcz68_2 : w67.cell? ⟨gb566, 2, none⟩ = some (.int .i64 0) := (blk_cell BK566.out 2).trans rfl; have hfz68_0 := blk_frozen BK566.out 0; have hfz68_1 := blk_frozen BK566.out 1; have hfz68_2 := blk_frozen BK566.out 2))
                       have n0_ : Aside0 (Kd.R k44 44 (((w67.setCell ⟨gb566, 0, none⟩ (.int .i64 ((rd_T44 t540 (rd t558 x59_3)).f0))).setCell ⟨gb566, 1, none⟩ (.int .i64 ((rd_T44 t540 (rd t558 x59_3)).f1))).setCell ⟨gb566, 2, none⟩ (.int .i64 ((rd_T44 t540 (rd t558 x59_3)).f2))) w.heap.size (fun k_ => k_ ≠ gb566) (.slice (some ad565) t540.length co7) t540) := ⟨by (with_reducible repeat (first | apply Kd.R_alloc | apply Kd.R_drewN | apply Kd.R_drew)); exact Kd.R_mono (Kd.R_far (p := ⟨gb566, 2, none⟩) (Kd.R_far (p := ⟨gb566, 1, none⟩) (Kd.R_far (p := ⟨gb566, 0, none⟩) (Kd.R_mono HO_4.out (fun k_ hk => (⟨hk, hk.2⟩ : _ ∧ k_ ≠ gb566))) (fun _ hk => hk.2) (.int .i64 ((rd_T44 t540 (rd t558 x59_3)).f0))) (fun _ hk => hk.2) (.int .i64 ((rd_T44 t540 (rd t558 x59_3)).f1))) (fun _ hk => hk.2) (.int .i64 ((rd_T44 t540 (rd t558 x59_3)).f2))) (fun _ hk => hk.1.2)⟩
                       have n1_ : Aside0 (Kd.R (Kd.int .i64) 3 (((w67.setCell ⟨gb566, 0, none⟩ (.int .i64 ((rd_T44 t540 (rd t558 x59_3)).f0))).setCell ⟨gb566, 1, none⟩ (.int .i64 ((rd_T44 t540 (rd t558 x59_3)).f1))).setCell ⟨gb566, 2, none⟩ (.int .i64 ((rd_T44 t540 (rd t558 x59_3)).f2))) w.heap.size (fun k_ => some k_ ≠ (v556 : Value).ownBlock ∧ some k_ ≠ (.slice (some ad564) t558.length co30 : Value).ownBlock ∧ some k_ ≠ (.slice (some ad564) t558.length co30 : Value).ownBlock) (.slice Ao29 t544.length co29) t544) := ⟨by (with_reducible repeat (first | apply Kd.R_alloc | apply Kd.R_drewN | apply Kd.R_drew)); exact Kd.R_mono (Kd.R_far (p := ⟨gb566, 2, none⟩) (Kd.R_far (p := ⟨gb566, 1, none⟩) (Kd.R_far (p := ⟨gb566, 0, none⟩) (Kd.R_types HO_6.out BK566.out (by decide)) (fun _ hk => hk.2) (.int .i64 ((rd_T44 t540 (rd t558 x59_3)).f0))) (fun _ hk => hk.2) (.int .i64 ((rd_T44 t540 (rd t558 x59_3)).f1))) (fun _ hk => hk.2) (.int .i64 ((rd_T44 t540 (rd t558 x59_3)).f2))) (fun _ hk => ⟨hk.1.1, ⟨hk.1.2.1, hk.1.2.2⟩⟩)⟩
                       have n2_ : Aside0 (Kd.R (Kd.int .i64) 3 (((w67.setCell ⟨gb566, 0, none⟩ (.int .i64 ((rd_T44 t540 (rd t558 x59_3)).f0))).setCell ⟨gb566, 1, none⟩ (.int .i64 ((rd_T44 t540 (rd t558 x59_3)).f1))).setCell ⟨gb566, 2, none⟩ (.int .i64 ((rd_T44 t540 (rd t558 x59_3)).f2))) w.heap.size (fun k_ => some k_ ≠ (.slice Ao29 t544.length co29 : Value).ownBlock ∧ some k_ ≠ (.slice (some ad564) t558.length co30 : Value).ownBlock ∧ some k_ ≠ (.slice (some ad564) t558.length co30 : Value).ownBlock) v556 t555) := ⟨by (with_reducible repeat (first | apply Kd.R_alloc | apply Kd.R_drewN | apply Kd.R_drew)); exact Kd.R_mono (Kd.R_far (p := ⟨gb566, 2, none⟩) (Kd.R_far (p := ⟨gb566, 1, none⟩) (Kd.R_far (p := ⟨gb566, 0, none⟩) (Kd.R_types HO_7.out BK566.out (by decide)) (fun _ hk => hk.2) (.int .i64 ((rd_T44 t540 (rd t558 x59_3)).f0))) (fun _ hk => hk.2) (.int .i64 ((rd_T44 t540 (rd t558 x59_3)).f1))) (fun _ hk => hk.2) (.int .i64 ((rd_T44 t540 (rd t558 x59_3)).f2))) (fun _ hk => ⟨hk.1.1, ⟨hk.1.2.1, hk.1.2.2⟩⟩)⟩
                       have n3_ : Aside0 (Kd.R (Kd.int .i64) 3 (((w67.setCell ⟨gb566, 0, none⟩ (.int .i64 ((rd_T44 t540 (rd t558 x59_3)).f0))).setCell ⟨gb566, 1, none⟩ (.int .i64 ((rd_T44 t540 (rd t558 x59_3)).f1))).setCell ⟨gb566, 2, none⟩ (.int .i64 ((rd_T44 t540 (rd t558 x59_3)).f2))) w.heap.size (fun k_ => some k_ ≠ (.slice Ao29 t544.length co29 : Value).ownBlock ∧ some k_ ≠ (v556 : Value).ownBlock) (.slice (some ad564) t558.length co30) t558) := ⟨by (with_reducible repeat (first | apply Kd.R_alloc | apply Kd.R_drewN | apply Kd.R_drew)); exact Kd.R_mono (Kd.R_far (p := ⟨gb566, 2, none⟩) (Kd.R_far (p := ⟨gb566, 1, none⟩) (Kd.R_far (p := ⟨gb566, 0, none⟩) (Kd.R_types HO_8.out BK566.out (by decide)) (fun _ hk => hk.2) (.int .i64 ((rd_T44 t540 (rd t558 x59_3)).f0))) (fun _ hk => hk.2) (.int .i64 ((rd_T44 t540 (rd t558 x59_3)).f1))) (fun _ hk => hk.2) (.int .i64 ((rd_T44 t540 (rd t558 x59_3)).f2))) (fun _ hk => ⟨hk.1.1, hk.1.2⟩)⟩
                       have n4_ : Aside0 (Kd.R (Kd.int .i64) 3 (((w67.setCell ⟨gb566, 0, none⟩ (.int .i64 ((rd_T44 t540 (rd t558 x59_3)).f0))).setCell ⟨gb566, 1, none⟩ (.int .i64 ((rd_T44 t540 (rd t558 x59_3)).f1))).setCell ⟨gb566, 2, none⟩ (.int .i64 ((rd_T44 t540 (rd t558 x59_3)).f2))) w.heap.size (fun k_ => some k_ ≠ (.slice Ao29 t544.length co29 : Value).ownBlock ∧ some k_ ≠ (v556 : Value).ownBlock) (.slice (some ad564) t558.length co30) t558) := ⟨by (with_reducible repeat (first | apply Kd.R_alloc | apply Kd.R_drewN | apply Kd.R_drew)); exact Kd.R_mono (Kd.R_far (p := ⟨gb566, 2, none⟩) (Kd.R_far (p := ⟨gb566, 1, none⟩) (Kd.R_far (p := ⟨gb566, 0, none⟩) (Kd.R_types HO_57.out BK566.out (by decide)) (fun _ hk => hk.2) (.int .i64 ((rd_T44 t540 (rd t558 x59_3)).f0))) (fun _ hk => hk.2) (.int .i64 ((rd_T44 t540 (rd t558 x59_3)).f1))) (fun _ hk => hk.2) (.int .i64 ((rd_T44 t540 (rd t558 x59_3)).f2))) (fun _ hk => ⟨hk.1.1, hk.1.2⟩)⟩
                       have n5_ : Aside0 ((((w67.setCell ⟨gb566, 0, none⟩ (.int .i64 ((rd_T44 t540 (rd t558 x59_3)).f0))).setCell ⟨gb566, 1, none⟩ (.int .i64 ((rd_T44 t540 (rd t558 x59_3)).f1))).setCell ⟨gb566, 2, none⟩ (.int .i64 ((rd_T44 t540 (rd t558 x59_3)).f2))).heap[gb566]? = some (.cells #[.int .i64 ((rd_T44 t540 (rd t558 x59_3)).f0), .int .i64 ((rd_T44 t540 (rd t558 x59_3)).f1), .int .i64 ((rd_T44 t540 (rd t558 x59_3)).f2)] 44 (0, 0))) := ⟨by (with_reducible repeat (first | refine blk_drewN ?_ _ | refine blk_drew ?_ | refine blk_alloc ?_ _)); refine blk_put (cs := #[.int .i64 ((rd_T44 t540 (rd t558 x59_3)).f0), .int .i64 ((rd_T44 t540 (rd t558 x59_3)).f1), .int .i64 0]) ?_ 2 _ rfl; (with_reducible repeat (first | refine blk_drewN ?_ _ | refine blk_drew ?_ | refine blk_alloc ?_ _)); refine blk_put (cs := #[.int .i64 ((rd_T44 t540 (rd t558 x59_3)).f0), .int .i64 0, .int .i64 0]) ?_ 1 _ rfl; (with_reducible repeat (first | refine blk_drewN ?_ _ | refine blk_drew ?_ | refine blk_alloc ?_ _)); refine blk_put (cs := #[.int .i64 0, .int .i64 0, .int .i64 0]) ?_ 0 _ rfl; (with_reducible repeat (first | refine blk_drewN ?_ _ | refine blk_drew ?_ | refine blk_alloc ?_ _)); exact BK566.out⟩
                       have n6_ : Aside0 (Below w.heap.size w (((w67.setCell ⟨gb566, 0, none⟩ (.int .i64 ((rd_T44 t540 (rd t558 x59_3)).f0))).setCell ⟨gb566, 1, none⟩ (.int .i64 ((rd_T44 t540 (rd t558 x59_3)).f1))).setCell ⟨gb566, 2, none⟩ (.int .i64 ((rd_T44 t540 (rd t558 x59_3)).f2)))) := ⟨bw HB.out⟩
                       (try clear HO_4)
                       (try clear HO_6)
                       (try clear HO_7)
                       (try clear HO_8)
                       (try clear HO_57)
                       (try clear BK566)
                       (try clear HB)
                       generalize (((w67.setCell ⟨gb566, 0, none⟩ (.int .i64 ((rd_T44 t540 (rd t558 x59_3)).f0))).setCell ⟨gb566, 1, none⟩ (.int .i64 ((rd_T44 t540 (rd t558 x59_3)).f1))).setCell ⟨gb566, 2, none⟩ (.int .i64 ((rd_T44 t540 (rd t558 x59_3)).f2))) = w69 at n0_ n1_ n2_ n3_ n4_ n5_ n6_ ⊢
                       have HO_4 := n0_
                       have HO_6 := n1_
                       have HO_7 := n2_
                       have HO_8 := n3_
                       have HO_57 := n4_
                       have BK566 := n5_
                       have HB := n6_
                       clear n0_ n1_ n2_ n3_ n4_ n5_ n6_
                       have n0_ := Aside0.mk (Kd.R_drew HO_4.out)
                       have n1_ := Aside0.mk (Kd.R_drew HO_6.out)
                       have n2_ := Aside0.mk (Kd.R_drew HO_7.out)
                       have n3_ := Aside0.mk (Kd.R_drew HO_8.out)
                       have n4_ := Aside0.mk (Kd.R_drew HO_57.out)
                       have n5_ := Aside0.mk (blk_drew BK566.out)
                       have n6_ := Aside0.mk (below_drew1 HB.out)
                       clear HO_4
                       clear HO_6
                       clear HO_7
                       clear HO_8
                       clear HO_57
                       clear BK566
                       clear HB
                       have HO_4 := n0_
                       have HO_6 := n1_
                       have HO_7 := n2_
                       have HO_8 := n3_
                       have HO_57 := n4_
                       have BK566 := n5_
                       have HB := n6_
                       clear n0_ n1_ n2_ n3_ n4_ n5_ n6_
                       have p567 : 0 ≤ ((ji41) : Int) := od
                       have q567 : (ji41) < (t544.length : Int) := od
                       obtain ⟨ad567, e567, hx567_0⟩ := Kd.at_int (Kd.R_reads' HO_6.out).2.2 (ji41) p567 q567
                       cases e567
                       replace p567 := eq_true p567
                       replace q567 := eq_true q567
                       have p568 : 0 ≤ (x9_2 : Int) := od
                       have q568 : x9_2 < (t544.length : Int) := od
                       obtain ⟨ad568, e568, hx568_0⟩ := Kd.at_int (Kd.R_reads' HO_6.out).2.2 x9_2 p568 q568
                       obtain rfl : ad567 = ad568 := (by injection e568)
                       replace p568 := eq_true p568
                       replace q568 := eq_true q568
                       have p569 : 0 ≤ (x9_2 : Int) := od
                       have q569 : x9_2 < (t544.length : Int) := od
                       obtain ⟨ad569, e569, hx569_0⟩ := Kd.at_int (Kd.R_reads' HO_6.out).2.2 x9_2 p569 q569
                       obtain rfl : ad567 = ad569 := (by injection e569)
                       replace p569 := eq_true p569
                       replace q569 := eq_true q569
                       have p574 : 0 ≤ (x9_2 : Int) := od
                       have q574 : x9_2 < (t544.length : Int) := od
                       obtain ⟨ad574, e574, hx574_0⟩ := Kd.at_int (Kd.R_reads' HO_6.out).2.2 x9_2 p574 q574
                       obtain rfl : ad567 = ad574 := (by injection e574)
                       replace p574 := eq_true p574
                       replace q574 := eq_true q574
                       refine start_ (n := 59) (S := fun w' => w'.cell? ⟨gb566, 0, none⟩ = some (.int .i64 ((rd_T44 t540 (rd t558 x59_3)).f0)) ∧ w'.cell? ⟨gb566, 1, none⟩ = some (.int .i64 ((rd_T44 t540 (rd t558 x59_3)).f1)) ∧ w'.cell? ⟨gb566, 2, none⟩ = some (.int .i64 ((rd_T44 t540 (rd t558 x59_3)).f2)) ∧ w'.cell? (ad567.add ((ji41)).toNat) = some (.int .i64 (rd t544 (ji41))) ∧ w'.cell? (ad567.add (x9_2).toNat) = some (.int .i64 (rd t544 x9_2)) ∧ w'.cell? (ad567.add (x9_2).toNat) = some (.int .i64 (rd t544 x9_2)) ∧ w'.cell? (ad567.add (x9_2).toNat) = some (.int .i64 (rd t544 x9_2))) (ds := []) (bl 59 0) (by kernel_rfl) rfl (by kernel_rfl) ⟨(blk_cell BK566.out 0).trans rfl, (blk_cell BK566.out 1).trans rfl, (blk_cell BK566.out 2).trans rfl, hx567_0, hx568_0, hx569_0, hx574_0⟩ (fun hHeld => ?_); refine with_tabW laws_FnWayUp.tab17 laws_FnWayUp.bits17 (fun HT_ HW_ => ?_)
                       generalize w69.drew = w70 at HO_4 HO_6 HO_7 HO_8 HO_57 BK566 HB hx567_0 hx568_0 hx569_0 hx574_0 hHeld ⊢
                       refine pA 0 (some 67) (bl 59 1) HT_ (h := ?_)
                       refine pA 1 (some 68) (bl 59 3) HT_ (h := ?_)
                       refine pA 2 (some 69) (bl 59 7) HT_ (h := ?_)
                       refine pA 4 (some 71) (bl 59 23) HT_ (h := ?_)
                       refine pA 7 (some 74) (bl 59 151) HT_ (h := ?_)
                       refine pA 8 (some 75) (bl 59 407) HT_ (h := ?_)
                       refine pA 9 (some 76) (bl 59 919) HT_ (h := ?_)
                       refine pA 10 (some 77) (bl 59 1943) HT_ (h := ?_)
                       refine pA 12 (some 79) (bl 59 6039) HT_ (h := ?_)
                       refine pA 13 (some 80) (bl 59 14231) HT_ (h := ?_)
                       refine pA 14 (some 81) (bl 59 30615) HT_ (h := ?_)
                       refine tA 3 (some 70) (bl 59 30623) HT_ HW_ hHeld (h := ?_)
                       refine tA 5 (some 72) (bl 59 30655) HT_ HW_ hHeld (h := ?_)
                       refine pA 6 (some 73) (bl 59 30719) HT_ (h := ?_)
                       refine tA 11 (some 78) (bl 59 32767) HT_ HW_ hHeld (h := ?_)
                       refine tA 15 (some 82) (bl 59 65535) HT_ HW_ hHeld (h := ?_)
                       refine pA 16 (some 83) (bl 59 131071) HT_ (h := ?_)
                       refine pA 17 (some 84) (bl 59 262143) HT_ (h := ?_)
                       refine pA 18 (some 85) (bl 59 524287) HT_ (h := ?_)
                       refine pA 19 (some 86) (bl 59 1048575) HT_ (h := ?_)
                       refine pA 21 (some 88) (bl 59 3145727) HT_ (h := ?_)
                       refine pA 22 (some 89) (bl 59 7340031) HT_ (h := ?_)
                       refine pA 23 (some 90) (bl 59 15728639) HT_ (h := ?_)
                       refine tA 20 (some 87) (bl 59 16777215) HT_ HW_ hHeld (h := ?_)
                       refine tA 24 (some 91) (bl 59 33554431) HT_ HW_ hHeld (h := ?_)
                       refine pA 25 (some 92) (bl 59 67108863) HT_ (h := ?_)
                       refine pA 26 (some 93) (bl 59 134217727) HT_ (h := ?_)
                       refine pA 27 (some 94) (bl 59 268435455) HT_ (h := ?_)
                       refine pA 29 (some 96) (bl 59 805306367) HT_ (h := ?_)
                       refine pA 30 (some 97) (bl 59 1879048191) HT_ (h := ?_)
                       refine pA 31 (some 98) (bl 59 4026531839) HT_ (h := ?_)
                       refine tA 28 (some 95) (bl 59 4294967295) HT_ HW_ hHeld (h := ?_)
                       refine tA 32 (some 99) (bl 59 8589934591) HT_ HW_ hHeld (h := ?_)
                       refine pA 33 (some 100) (bl 59 17179869183) HT_ (h := ?_)
                       refine pA 34 (some 101) (bl 59 34359738367) HT_ (h := ?_)
                       refine pA 35 (some 102) (bl 59 68719476735) HT_ (h := ?_)
                       refine pA 36 (some 103) (bl 59 137438953471) HT_ (h := ?_)
                       refine pO 37 (some 104) (bl 59 274877906943) HT_ (h := ?_)
                       refine pO 38 (some 105) (bl 59 549755813887) HT_ (h := ?_)
                       refine pO 39 (some 106) (bl 59 1099511627775) HT_ (h := ?_)
                       refine pO 40 (some 107) (bl 59 2199023255551) HT_ (h := ?_)
                       refine pO 41 (some 108) (bl 59 4398046511103) HT_ (h := ?_)
                       refine pO 42 (some 109) (bl 59 8796093022207) HT_ (h := ?_)
                       refine pO 43 (some 110) (bl 59 17592186044415) HT_ (h := ?_)
                       refine pO 44 (some 111) (bl 59 35184372088831) HT_ (h := ?_)
                       refine pO 45 (some 112) (bl 59 70368744177663) HT_ (h := ?_)
                       refine pO 46 (some 113) (bl 59 140737488355327) HT_ (h := ?_)
                       refine pO 47 (some 114) (bl 59 281474976710655) HT_ (h := ?_)
                       refine pO 48 (some 115) (bl 59 562949953421311) HT_ (h := ?_)
                       refine pO 49 (some 116) (bl 59 1125899906842623) HT_ (h := ?_)
                       refine pO 50 (some 117) (bl 59 2251799813685247) HT_ (h := ?_)
                       refine pO 51 (some 118) (bl 59 4503599627370495) HT_ (h := ?_)
                       refine pO 52 (some 119) (bl 59 9007199254740991) HT_ (h := ?_)
                       refine pO 53 (some 120) (bl 59 18014398509481983) HT_ (h := ?_)
                       refine pO 54 (some 121) (bl 59 36028797018963967) HT_ (h := ?_)
                       refine pO 55 (some 122) (bl 59 72057594037927935) HT_ (h := ?_)
                       refine pA 56 (some 123) (bl 59 144115188075855871) HT_ (h := ?_)
                       refine pA 57 (some 124) (bl 59 288230376151711743) HT_ (h := ?_)
                       refine pA 58 (some 10) (bl 59 576460752303423487) HT_ (h := ?_)
                       refine done_ (done_of HT_.out (by kernel_rfl)) ?_
                       try go_wp2
                       go_roundg k3
                       case measure => have := HJ4.out; have := HK2.out; have := HK3.out; omega
                       case rel => exact ⟨(false), (wrap64 (x59_3 + 1)), fs, fs, H', ⟨by have := HJ4.out; have := HK2.out; have := HK3.out; omega⟩, ⟨by (with_reducible repeat (first | apply Kd.R_alloc | apply Kd.R_drewN | apply Kd.R_drew)); exact Kd.R_mono HO_4.out (fun _ hk => trivial)⟩, ⟨ru HO_6.out⟩, ⟨ru HO_7.out⟩, ⟨ru HO_8.out⟩, ⟨ru HO_57.out⟩, ⟨bw HB.out⟩⟩
                    ·rw [if_neg c46] at H
                     have c46b0 : ((wrap64 (((rd_T44 t540 (rd t558 x59_3)).f0) + ((rd_T44 t540 (rd t558 x59_3)).f1))) == (wrap64 ((rd t544 (ji41)) + (rd t544 x9_2)))) = false := beq_eq_false_iff_ne.mpr c46
                     have c46b1 : ((wrap64 (((rd_T44 t540 (rd t558 x59_3)).f0) + ((rd_T44 t540 (rd t558 x59_3)).f1))) != (wrap64 ((rd t544 (ji41)) + (rd t544 x9_2)))) = true := bne_iff_ne.mpr c46
                     have H' := Aside0.mk H
                     clear H
                     have p564 : 0 ≤ (x59_3 : Int) := od
                     have q564 : x59_3 < (t558.length : Int) := od
                     obtain ⟨ad564, e564, hx564_0⟩ := Kd.at_int (Kd.R_reads' HO_57.out).2.2 x59_3 p564 q564
                     cases e564
                     replace p564 := eq_true p564
                     replace q564 := eq_true q564
                     have p565 : 0 ≤ ((rd t558 x59_3) : Int) := od
                     have q565 : (rd t558 x59_3) < (t540.length : Int) := od
                     obtain ⟨ad565, e565, hx565_0, hx565_1, hx565_2⟩ := at_T44 (Kd.R_reads' HO_4.out).2.2 (rd t558 x59_3) p565 q565
                     cases e565
                     replace p565 := eq_true p565
                     replace q565 := eq_true q565
                     try go_wp2_with (first | ((with_reducible refine gate_dst (N := 13) rfl ?_); (try (refine gate_guard (by rfl) ?_; dsimp only)); refine box_event ?hg (N := 13) ?hd (cs := #[.int .i64 0, .int .i64 0, .int .i64 0]) (t := 44) ?hr ?_; (case hd => rfl); (case hg => rfl); (case hr => first | (go_simp; done) | (go_simp; rfl)); intro gb566 hg w71 hbox hb; have n0_ := Aside0.mk (Kd.R_below (Kd.R_elderB (ru HO_4.out) gb566 (Nat.le_of_eq hg.symm)) hb); have n1_ := Aside0.mk (Kd.R_below (ru HO_6.out) hb); have n2_ := Aside0.mk (Kd.R_below (ru HO_7.out) hb); have n3_ := Aside0.mk (Kd.R_below (ru HO_8.out) hb); have n4_ := Aside0.mk (Kd.R_below (ru HO_57.out) hb); have n5_ := Aside0.mk (below_step (bw HB.out) hb); have n6_ := Aside0.mk (hbox); have n7_ := Aside0.mk ((by rw [hg]; exact (below_size (bw HB.out)) : w.heap.size ≤ gb566)); have n8_ := Aside0.mk ((by rw [hg]; exact (below_size (bw HB.out)) : w.heap.size ≤ gb566)); clear HO_4; clear HO_6; clear HO_7; clear HO_8; clear HO_57; clear HB; have HO_4 := n0_; have HO_6 := n1_; have HO_7 := n2_; have HO_8 := n3_; have HO_57 := n4_; have HB := n5_; have BK566 := n6_; have GW566 := n7_; have GE566 := n8_; clear n0_ n1_ n2_ n3_ n4_ n5_ n6_ n7_ n8_; clear hb hbox hg; have hcz72_0 : w71.cell? ⟨gb566, 0, none⟩ = some (.int .i64 0) := (blk_cell BK566.out 0).trans rfl; have hcz72_1 : w71.cell? ⟨gb566, 1, none⟩ = some (.int .i64 0) := (blk_cell BK566.out 1).trans rfl; have hcz72_2 : w71.cell? ⟨gb566, 2, none⟩ = some (.int .i64 0) := (blk_cell BK566.out 2).trans rfl; have hfz72_0 := blk_frozen BK566.out 0; have hfz72_1 := blk_frozen BK566.out 1; have hfz72_2 := blk_frozen BK566.out 2))
                     have n0_ : Aside0 (Kd.R k44 44 (((w71.setCell ⟨gb566, 0, none⟩ (.int .i64 ((rd_T44 t540 (rd t558 x59_3)).f0))).setCell ⟨gb566, 1, none⟩ (.int .i64 ((rd_T44 t540 (rd t558 x59_3)).f1))).setCell ⟨gb566, 2, none⟩ (.int .i64 ((rd_T44 t540 (rd t558 x59_3)).f2))) w.heap.size (fun k_ => k_ ≠ gb566) (.slice (some ad565) t540.length co7) t540) := ⟨by (with_reducible repeat (first | apply Kd.R_alloc | apply Kd.R_drewN | apply Kd.R_drew)); exact Kd.R_mono (Kd.R_far (p := ⟨gb566, 2, none⟩) (Kd.R_far (p := ⟨gb566, 1, none⟩) (Kd.R_far (p := ⟨gb566, 0, none⟩) (Kd.R_mono HO_4.out (fun k_ hk => (⟨hk, hk.2⟩ : _ ∧ k_ ≠ gb566))) (fun _ hk => hk.2) (.int .i64 ((rd_T44 t540 (rd t558 x59_3)).f0))) (fun _ hk => hk.2) (.int .i64 ((rd_T44 t540 (rd t558 x59_3)).f1))) (fun _ hk => hk.2) (.int .i64 ((rd_T44 t540 (rd t558 x59_3)).f2))) (fun _ hk => hk.1.2)⟩
                     have n1_ : Aside0 (Kd.R (Kd.int .i64) 3 (((w71.setCell ⟨gb566, 0, none⟩ (.int .i64 ((rd_T44 t540 (rd t558 x59_3)).f0))).setCell ⟨gb566, 1, none⟩ (.int .i64 ((rd_T44 t540 (rd t558 x59_3)).f1))).setCell ⟨gb566, 2, none⟩ (.int .i64 ((rd_T44 t540 (rd t558 x59_3)).f2))) w.heap.size (fun k_ => some k_ ≠ (v556 : Value).ownBlock ∧ some k_ ≠ (.slice (some ad564) t558.length co30 : Value).ownBlock ∧ some k_ ≠ (.slice (some ad564) t558.length co30 : Value).ownBlock) (.slice Ao29 t544.length co29) t544) := ⟨by (with_reducible repeat (first | apply Kd.R_alloc | apply Kd.R_drewN | apply Kd.R_drew)); exact Kd.R_mono (Kd.R_far (p := ⟨gb566, 2, none⟩) (Kd.R_far (p := ⟨gb566, 1, none⟩) (Kd.R_far (p := ⟨gb566, 0, none⟩) (Kd.R_types HO_6.out BK566.out (by decide)) (fun _ hk => hk.2) (.int .i64 ((rd_T44 t540 (rd t558 x59_3)).f0))) (fun _ hk => hk.2) (.int .i64 ((rd_T44 t540 (rd t558 x59_3)).f1))) (fun _ hk => hk.2) (.int .i64 ((rd_T44 t540 (rd t558 x59_3)).f2))) (fun _ hk => ⟨hk.1.1, ⟨hk.1.2.1, hk.1.2.2⟩⟩)⟩
                     have n2_ : Aside0 (Kd.R (Kd.int .i64) 3 (((w71.setCell ⟨gb566, 0, none⟩ (.int .i64 ((rd_T44 t540 (rd t558 x59_3)).f0))).setCell ⟨gb566, 1, none⟩ (.int .i64 ((rd_T44 t540 (rd t558 x59_3)).f1))).setCell ⟨gb566, 2, none⟩ (.int .i64 ((rd_T44 t540 (rd t558 x59_3)).f2))) w.heap.size (fun k_ => some k_ ≠ (.slice Ao29 t544.length co29 : Value).ownBlock ∧ some k_ ≠ (.slice (some ad564) t558.length co30 : Value).ownBlock ∧ some k_ ≠ (.slice (some ad564) t558.length co30 : Value).ownBlock) v556 t555) := ⟨by (with_reducible repeat (first | apply Kd.R_alloc | apply Kd.R_drewN | apply Kd.R_drew)); exact Kd.R_mono (Kd.R_far (p := ⟨gb566, 2, none⟩) (Kd.R_far (p := ⟨gb566, 1, none⟩) (Kd.R_far (p := ⟨gb566, 0, none⟩) (Kd.R_types HO_7.out BK566.out (by decide)) (fun _ hk => hk.2) (.int .i64 ((rd_T44 t540 (rd t558 x59_3)).f0))) (fun _ hk => hk.2) (.int .i64 ((rd_T44 t540 (rd t558 x59_3)).f1))) (fun _ hk => hk.2) (.int .i64 ((rd_T44 t540 (rd t558 x59_3)).f2))) (fun _ hk => ⟨hk.1.1, ⟨hk.1.2.1, hk.1.2.2⟩⟩)⟩
                     have n3_ : Aside0 (Kd.R (Kd.int .i64) 3 (((w71.setCell ⟨gb566, 0, none⟩ (.int .i64 ((rd_T44 t540 (rd t558 x59_3)).f0))).setCell ⟨gb566, 1, none⟩ (.int .i64 ((rd_T44 t540 (rd t558 x59_3)).f1))).setCell ⟨gb566, 2, none⟩ (.int .i64 ((rd_T44 t540 (rd t558 x59_3)).f2))) w.heap.size (fun k_ => some k_ ≠ (.slice Ao29 t544.length co29 : Value).ownBlock ∧ some k_ ≠ (v556 : Value).ownBlock) (.slice (some ad564) t558.length co30) t558) := ⟨by (with_reducible repeat (first | apply Kd.R_alloc | apply Kd.R_drewN | apply Kd.R_drew)); exact Kd.R_mono (Kd.R_far (p := ⟨gb566, 2, none⟩) (Kd.R_far (p := ⟨gb566, 1, none⟩) (Kd.R_far (p := ⟨gb566, 0, none⟩) (Kd.R_types HO_8.out BK566.out (by decide)) (fun _ hk => hk.2) (.int .i64 ((rd_T44 t540 (rd t558 x59_3)).f0))) (fun _ hk => hk.2) (.int .i64 ((rd_T44 t540 (rd t558 x59_3)).f1))) (fun _ hk => hk.2) (.int .i64 ((rd_T44 t540 (rd t558 x59_3)).f2))) (fun _ hk => ⟨hk.1.1, hk.1.2⟩)⟩
                     have n4_ : Aside0 (Kd.R (Kd.int .i64) 3 (((w71.setCell ⟨gb566, 0, none⟩ (.int .i64 ((rd_T44 t540 (rd t558 x59_3)).f0))).setCell ⟨gb566, 1, none⟩ (.int .i64 ((rd_T44 t540 (rd t558 x59_3)).f1))).setCell ⟨gb566, 2, none⟩ (.int .i64 ((rd_T44 t540 (rd t558 x59_3)).f2))) w.heap.size (fun k_ => some k_ ≠ (.slice Ao29 t544.length co29 : Value).ownBlock ∧ some k_ ≠ (v556 : Value).ownBlock) (.slice (some ad564) t558.length co30) t558) := ⟨by (with_reducible repeat (first | apply Kd.R_alloc | apply Kd.R_drewN | apply Kd.R_drew)); exact Kd.R_mono (Kd.R_far (p := ⟨gb566, 2, none⟩) (Kd.R_far (p := ⟨gb566, 1, none⟩) (Kd.R_far (p := ⟨gb566, 0, none⟩) (Kd.R_types HO_57.out BK566.out (by decide)) (fun _ hk => hk.2) (.int .i64 ((rd_T44 t540 (rd t558 x59_3)).f0))) (fun _ hk => hk.2) (.int .i64 ((rd_T44 t540 (rd t558 x59_3)).f1))) (fun _ hk => hk.2) (.int .i64 ((rd_T44 t540 (rd t558 x59_3)).f2))) (fun _ hk => ⟨hk.1.1, hk.1.2⟩)⟩
                     have n5_ : Aside0 ((((w71.setCell ⟨gb566, 0, none⟩ (.int .i64 ((rd_T44 t540 (rd t558 x59_3)).f0))).setCell ⟨gb566, 1, none⟩ (.int .i64 ((rd_T44 t540 (rd t558 x59_3)).f1))).setCell ⟨gb566, 2, none⟩ (.int .i64 ((rd_T44 t540 (rd t558 x59_3)).f2))).heap[gb566]? = some (.cells #[.int .i64 ((rd_T44 t540 (rd t558 x59_3)).f0), .int .i64 ((rd_T44 t540 (rd t558 x59_3)).f1), .int .i64 ((rd_T44 t540 (rd t558 x59_3)).f2)] 44 (0, 0))) := ⟨by (with_reducible repeat (first | refine blk_drewN ?_ _ | refine blk_drew ?_ | refine blk_alloc ?_ _)); refine blk_put (cs := #[.int .i64 ((rd_T44 t540 (rd t558 x59_3)).f0), .int .i64 ((rd_T44 t540 (rd t558 x59_3)).f1), .int .i64 0]) ?_ 2 _ rfl; (with_reducible repeat (first | refine blk_drewN ?_ _ | refine blk_drew ?_ | refine blk_alloc ?_ _)); refine blk_put (cs := #[.int .i64 ((rd_T44 t540 (rd t558 x59_3)).f0), .int .i64 0, .int .i64 0]) ?_ 1 _ rfl; (with_reducible repeat (first | refine blk_drewN ?_ _ | refine blk_drew ?_ | refine blk_alloc ?_ _)); refine blk_put (cs := #[.int .i64 0, .int .i64 0, .int .i64 0]) ?_ 0 _ rfl; (with_reducible repeat (first | refine blk_drewN ?_ _ | refine blk_drew ?_ | refine blk_alloc ?_ _)); exact BK566.out⟩
                     have n6_ : Aside0 (Below w.heap.size w (((w71.setCell ⟨gb566, 0, none⟩ (.int .i64 ((rd_T44 t540 (rd t558 x59_3)).f0))).setCell ⟨gb566, 1, none⟩ (.int .i64 ((rd_T44 t540 (rd t558 x59_3)).f1))).setCell ⟨gb566, 2, none⟩ (.int .i64 ((rd_T44 t540 (rd t558 x59_3)).f2)))) := ⟨bw HB.out⟩
                     (try clear HO_4)
                     (try clear HO_6)
                     (try clear HO_7)
                     (try clear HO_8)
                     (try clear HO_57)
                     (try clear BK566)
                     (try clear HB)
                     generalize (((w71.setCell ⟨gb566, 0, none⟩ (.int .i64 ((rd_T44 t540 (rd t558 x59_3)).f0))).setCell ⟨gb566, 1, none⟩ (.int .i64 ((rd_T44 t540 (rd t558 x59_3)).f1))).setCell ⟨gb566, 2, none⟩ (.int .i64 ((rd_T44 t540 (rd t558 x59_3)).f2))) = w73 at n0_ n1_ n2_ n3_ n4_ n5_ n6_ ⊢
                     have HO_4 := n0_
                     have HO_6 := n1_
                     have HO_7 := n2_
                     have HO_8 := n3_
                     have HO_57 := n4_
                     have BK566 := n5_
                     have HB := n6_
                     clear n0_ n1_ n2_ n3_ n4_ n5_ n6_
                     have n0_ := Aside0.mk (Kd.R_drew HO_4.out)
                     have n1_ := Aside0.mk (Kd.R_drew HO_6.out)
                     have n2_ := Aside0.mk (Kd.R_drew HO_7.out)
                     have n3_ := Aside0.mk (Kd.R_drew HO_8.out)
                     have n4_ := Aside0.mk (Kd.R_drew HO_57.out)
                     have n5_ := Aside0.mk (blk_drew BK566.out)
                     have n6_ := Aside0.mk (below_drew1 HB.out)
                     clear HO_4
                     clear HO_6
                     clear HO_7
                     clear HO_8
                     clear HO_57
                     clear BK566
                     clear HB
                     have HO_4 := n0_
                     have HO_6 := n1_
                     have HO_7 := n2_
                     have HO_8 := n3_
                     have HO_57 := n4_
                     have BK566 := n5_
                     have HB := n6_
                     clear n0_ n1_ n2_ n3_ n4_ n5_ n6_
                     have p567 : 0 ≤ ((ji41) : Int) := od
                     have q567 : (ji41) < (t544.length : Int) := od
                     obtain ⟨ad567, e567, hx567_0⟩ := Kd.at_int (Kd.R_reads' HO_6.out).2.2 (ji41) p567 q567
                     cases e567
                     replace p567 := eq_true p567
                     replace q567 := eq_true q567
                     have p568 : 0 ≤ (x9_2 : Int) := od
                     have q568 : x9_2 < (t544.length : Int) := od
                     obtain ⟨ad568, e568, hx568_0⟩ := Kd.at_int (Kd.R_reads' HO_6.out).2.2 x9_2 p568 q568
                     obtain rfl : ad567 = ad568 := (by injection e568)
                     replace p568 := eq_true p568
                     replace q568 := eq_true q568
                     refine start_ (n := 59) (S := fun w' => w'.cell? ⟨gb566, 0, none⟩ = some (.int .i64 ((rd_T44 t540 (rd t558 x59_3)).f0)) ∧ w'.cell? ⟨gb566, 1, none⟩ = some (.int .i64 ((rd_T44 t540 (rd t558 x59_3)).f1)) ∧ w'.cell? ⟨gb566, 2, none⟩ = some (.int .i64 ((rd_T44 t540 (rd t558 x59_3)).f2)) ∧ w'.cell? (ad567.add ((ji41)).toNat) = some (.int .i64 (rd t544 (ji41))) ∧ w'.cell? (ad567.add (x9_2).toNat) = some (.int .i64 (rd t544 x9_2))) (ds := []) (bl 59 0) (by kernel_rfl) rfl (by kernel_rfl) ⟨(blk_cell BK566.out 0).trans rfl, (blk_cell BK566.out 1).trans rfl, (blk_cell BK566.out 2).trans rfl, hx567_0, hx568_0⟩ (fun hHeld => ?_); refine with_tabW laws_FnWayUp.tab17 laws_FnWayUp.bits17 (fun HT_ HW_ => ?_)
                     generalize w73.drew = w74 at HO_4 HO_6 HO_7 HO_8 HO_57 BK566 HB hx567_0 hx568_0 hHeld ⊢
                     refine pA 0 (some 67) (bl 59 1) HT_ (h := ?_)
                     refine pA 1 (some 68) (bl 59 3) HT_ (h := ?_)
                     refine pA 2 (some 69) (bl 59 7) HT_ (h := ?_)
                     refine pA 4 (some 71) (bl 59 23) HT_ (h := ?_)
                     refine pA 7 (some 74) (bl 59 151) HT_ (h := ?_)
                     refine pA 8 (some 75) (bl 59 407) HT_ (h := ?_)
                     refine pA 9 (some 76) (bl 59 919) HT_ (h := ?_)
                     refine pA 10 (some 77) (bl 59 1943) HT_ (h := ?_)
                     refine pA 12 (some 79) (bl 59 6039) HT_ (h := ?_)
                     refine pA 13 (some 80) (bl 59 14231) HT_ (h := ?_)
                     refine pA 14 (some 81) (bl 59 30615) HT_ (h := ?_)
                     refine tA 3 (some 70) (bl 59 30623) HT_ HW_ hHeld (h := ?_)
                     refine tA 5 (some 72) (bl 59 30655) HT_ HW_ hHeld (h := ?_)
                     refine pA 6 (some 73) (bl 59 30719) HT_ (h := ?_)
                     refine tA 11 (some 78) (bl 59 32767) HT_ HW_ hHeld (h := ?_)
                     refine tA 15 (some 82) (bl 59 65535) HT_ HW_ hHeld (h := ?_)
                     refine pA 16 (some 83) (bl 59 131071) HT_ (h := ?_)
                     refine pA 17 (some 84) (bl 59 262143) HT_ (h := ?_)
                     refine pA 18 (some 85) (bl 59 524287) HT_ (h := ?_)
                     refine pO 19 (some 86) (bl 59 1048575) HT_ (h := ?_)
                     refine pO 20 (some 87) (bl 59 2097151) HT_ (h := ?_)
                     refine pO 21 (some 88) (bl 59 4194303) HT_ (h := ?_)
                     refine pO 22 (some 89) (bl 59 8388607) HT_ (h := ?_)
                     refine pO 23 (some 90) (bl 59 16777215) HT_ (h := ?_)
                     refine pO 24 (some 91) (bl 59 33554431) HT_ (h := ?_)
                     refine pO 25 (some 92) (bl 59 67108863) HT_ (h := ?_)
                     refine pO 26 (some 93) (bl 59 134217727) HT_ (h := ?_)
                     refine pO 27 (some 94) (bl 59 268435455) HT_ (h := ?_)
                     refine pO 28 (some 95) (bl 59 536870911) HT_ (h := ?_)
                     refine pO 29 (some 96) (bl 59 1073741823) HT_ (h := ?_)
                     refine pO 30 (some 97) (bl 59 2147483647) HT_ (h := ?_)
                     refine pO 31 (some 98) (bl 59 4294967295) HT_ (h := ?_)
                     refine pO 32 (some 99) (bl 59 8589934591) HT_ (h := ?_)
                     refine pO 33 (some 100) (bl 59 17179869183) HT_ (h := ?_)
                     refine pO 34 (some 101) (bl 59 34359738367) HT_ (h := ?_)
                     refine pA 35 (some 102) (bl 59 68719476735) HT_ (h := ?_)
                     refine pA 36 (some 103) (bl 59 137438953471) HT_ (h := ?_)
                     refine pO 37 (some 104) (bl 59 274877906943) HT_ (h := ?_)
                     refine pO 38 (some 105) (bl 59 549755813887) HT_ (h := ?_)
                     refine pO 39 (some 106) (bl 59 1099511627775) HT_ (h := ?_)
                     refine pO 40 (some 107) (bl 59 2199023255551) HT_ (h := ?_)
                     refine pO 41 (some 108) (bl 59 4398046511103) HT_ (h := ?_)
                     refine pO 42 (some 109) (bl 59 8796093022207) HT_ (h := ?_)
                     refine pO 43 (some 110) (bl 59 17592186044415) HT_ (h := ?_)
                     refine pO 44 (some 111) (bl 59 35184372088831) HT_ (h := ?_)
                     refine pO 45 (some 112) (bl 59 70368744177663) HT_ (h := ?_)
                     refine pO 46 (some 113) (bl 59 140737488355327) HT_ (h := ?_)
                     refine pO 47 (some 114) (bl 59 281474976710655) HT_ (h := ?_)
                     refine pO 48 (some 115) (bl 59 562949953421311) HT_ (h := ?_)
                     refine pO 49 (some 116) (bl 59 1125899906842623) HT_ (h := ?_)
                     refine pO 50 (some 117) (bl 59 2251799813685247) HT_ (h := ?_)
                     refine pO 51 (some 118) (bl 59 4503599627370495) HT_ (h := ?_)
                     refine pO 52 (some 119) (bl 59 9007199254740991) HT_ (h := ?_)
                     refine pO 53 (some 120) (bl 59 18014398509481983) HT_ (h := ?_)
                     refine pO 54 (some 121) (bl 59 36028797018963967) HT_ (h := ?_)
                     refine pO 55 (some 122) (bl 59 72057594037927935) HT_ (h := ?_)
                     refine pA 56 (some 123) (bl 59 144115188075855871) HT_ (h := ?_)
                     refine pA 57 (some 124) (bl 59 288230376151711743) HT_ (h := ?_)
                     refine pA 58 (some 10) (bl 59 576460752303423487) HT_ (h := ?_)
                     refine done_ (done_of HT_.out (by kernel_rfl)) ?_
                     try go_wp2
                     go_roundg k3
                     case measure => have := HJ4.out; have := HK2.out; have := HK3.out; omega
                     case rel => exact ⟨(false), (wrap64 (x59_3 + 1)), fs, fs, H', ⟨by have := HJ4.out; have := HK2.out; have := HK3.out; omega⟩, ⟨by (with_reducible repeat (first | apply Kd.R_alloc | apply Kd.R_drewN | apply Kd.R_drew)); exact Kd.R_mono HO_4.out (fun _ hk => trivial)⟩, ⟨ru HO_6.out⟩, ⟨ru HO_7.out⟩, ⟨ru HO_8.out⟩, ⟨ru HO_57.out⟩, ⟨bw HB.out⟩⟩
                   ·rw [if_neg c45] at H
                    exact absurd H (by simp)
                  ·rw [if_neg c44] at H
                   exact absurd H (by simp)
                 ·rw [if_neg c43] at H
                  exact absurd H (by simp)
                ·rw [if_neg c42] at H
                 exact absurd H (by simp)
              ·rw [if_neg c35] at H
               exact absurd H (by simp)
             ·rw [if_neg c34] at H
              exact absurd H (by simp)
            ·rw [if_neg c33] at H
             exact absurd H (by simp)
           ·rw [if_neg c32] at H
            exact absurd H (by simp)
          ·rw [if_neg c31] at H
           have c31b0 : decide (x59_3 < (t558.length : Int)) = false := decide_eq_false c31
           clear c31
           by_cases c75 : x10_3 = true
           ·subst c75
            rw [if_pos rfl] at H
            have H' := Aside0.mk H
            clear H
            go_wp2
            go_roundg k3
            case measure => have := HJ4.out; have := HK2.out; have := HK3.out; omega
            case rel => exact ⟨(wrap64 (x9_2 + 1)), fs, H', ⟨by have := HJ4.out; have := HK2.out; have := HK3.out; omega⟩, ⟨ru HO_4.out⟩, ⟨by (with_reducible repeat (first | apply Kd.R_alloc | apply Kd.R_drewN | apply Kd.R_drew)); exact Kd.R_mono HO_6.out (fun _ hk => ⟨hk.1, hk.2.1⟩)⟩, ⟨by (with_reducible repeat (first | apply Kd.R_alloc | apply Kd.R_drewN | apply Kd.R_drew)); exact Kd.R_mono HO_7.out (fun _ hk => ⟨hk.1, hk.2.1⟩)⟩, ⟨ru HO_8.out⟩, ⟨bw HB.out⟩⟩
           ·replace c75 := Bool.eq_false_iff.mpr c75
            subst c75
            rw [if_neg (show ¬ (false = true) by decide)] at H
            obtain rfl := Option.some.inj H
            go_wp2
            go_ret
            exact ⟨fe, bw HB.out⟩
       ·rw [if_neg c28] at H
        have c28b0 : decide (x9_2 < (t544.length : Int)) = false := decide_eq_false c28
        clear c28
        by_cases c76 : 0 < (t544.length : Int)
        ·rw [if_pos c76] at H
         have c76b0 : decide (0 < (t544.length : Int)) = true := decide_eq_true c76
         have c76b1 : decide (0 < t544.length) = true := decide_eq_true (by omega)
         clear c76
         by_cases c77 : (rd t544 0) = t541
         ·rw [if_pos c77] at H
          have c77b0 : ((rd t544 0) == t541) = true := beq_iff_eq.mpr c77
          have c77b1 : ((rd t544 0) != t541) = false := bne_eq_false_iff_eq.mpr c77
          clear c77
          obtain ⟨ji78, hji78⟩ : ∃ j_ : Int, (wrap64 ((t544.length : Int) - 1)) = j_ := ⟨_, rfl⟩
          replace H : (if 0 ≤ (ji78) then (if (ji78) < (t544.length : Int) then ((impl_RootOf.f k2 t539 t540 t541).bind fun t563 => (some ((rd t544 (ji78)) == t563))) else (none)) else (none)) = some r := by first | (rw [hji78] at H; exact H) | (simp only [hji78] at H ⊢; exact H)
          have hji78w : (IntKind.i64.wrap ((t544.length : Int) - 1)) = ji78 := (i64_w _).trans hji78
          by_cases c79 : 0 ≤ (ji78)
          ·rw [if_pos c79] at H
           have c79b0 : decide (0 ≤ (ji78)) = true := decide_eq_true c79
           clear c79
           by_cases c80 : (ji78) < (t544.length : Int)
           ·rw [if_pos c80] at H
            have c80b0 : decide ((ji78) < (t544.length : Int)) = true := decide_eq_true c80
            clear c80
            replace H := Option.bind_eq_some_iff.mp H
            obtain ⟨t563, A810, H⟩ := H
            try dsimp only at H
            have A81 := Aside0.mk A810
            clear A810
            obtain rfl := Option.some.inj H
            obtain ⟨Ao82, co82, eo82⟩ := Kd.R_slice HO_6.out
            subst eo82
            try go_wp2
            have n0_ := Aside0.mk (Kd.R_drew HO_4.out)
            have n1_ := Aside0.mk (Kd.R_drew HO_6.out)
            have n2_ := Aside0.mk (Kd.R_drew HO_7.out)
            have n3_ := Aside0.mk (Kd.R_drew HO_8.out)
            have n4_ := Aside0.mk (below_drew1 HB.out)
            clear HO_4
            clear HO_6
            clear HO_7
            clear HO_8
            clear HB
            have HO_4 := n0_
            have HO_6 := n1_
            have HO_7 := n2_
            have HO_8 := n3_
            have HB := n4_
            clear n0_ n1_ n2_ n3_ n4_
            have p561 : 0 ≤ (0 : Int) := (by omega)
            have q561 : 0 < (t544.length : Int) := od
            obtain ⟨ad561, e561, hx561_0⟩ := Kd.at_int (Kd.R_reads' HO_6.out).2.2 0 p561 q561
            cases e561
            have qi561 : (0 < t544.length) = True := eq_true (by omega)
            (try rw [show ((0 : Int)).toNat = 0 from rfl] at hx561_0)
            (try rw [Addr.add_zero'] at hx561_0)
            replace p561 := eq_true p561
            replace q561 := eq_true q561
            have p562 : 0 ≤ ((ji78) : Int) := od
            have q562 : (ji78) < (t544.length : Int) := od
            obtain ⟨ad562, e562, hx562_0⟩ := Kd.at_int (Kd.R_reads' HO_6.out).2.2 (ji78) p562 q562
            obtain rfl : ad561 = ad562 := (by injection e562)
            replace p562 := eq_true p562
            replace q562 := eq_true q562
            refine start_ (n := 19) (S := fun w' => w'.cell? ad561 = some (.int .i64 (rd t544 0)) ∧ w'.cell? (ad561.add ((ji78)).toNat) = some (.int .i64 (rd t544 (ji78)))) (ds := []) (bl 19 0) (by kernel_rfl) rfl (by kernel_rfl) ⟨hx561_0, hx562_0⟩ (fun hHeld => ?_); refine with_tabW laws_FnWayUp.tab21 laws_FnWayUp.bits21 (fun HT_ HW_ => ?_)
            generalize wr.drew = w83 at HO_4 HO_6 HO_7 HO_8 HB hx561_0 hx562_0 hHeld ⊢
            refine pA 0 (some 128) (bl 19 1) HT_ (h := ?_)
            refine pA 1 (some 129) (bl 19 3) HT_ (h := ?_)
            refine pA 3 (some 131) (bl 19 11) HT_ (h := ?_)
            refine tA 2 (some 130) (bl 19 15) HT_ HW_ hHeld (h := ?_)
            refine pA 4 (some 132) (bl 19 31) HT_ (h := ?_)
            refine pA 5 (some 133) (bl 19 63) HT_ (h := ?_)
            refine pA 6 (some 134) (bl 19 127) HT_ (h := ?_)
            refine pA 7 (some 135) (bl 19 255) HT_ (h := ?_)
            refine pA 8 (some 136) (bl 19 511) HT_ (h := ?_)
            refine pA 9 (some 137) (bl 19 1023) HT_ (h := ?_)
            refine pA 10 (some 138) (bl 19 2047) HT_ (h := ?_)
            refine pA 12 (some 140) (bl 19 6143) HT_ (h := ?_)
            refine pA 13 (some 141) (bl 19 14335) HT_ (h := ?_)
            refine pA 14 (some 142) (bl 19 30719) HT_ (h := ?_)
            refine tA 11 (some 139) (bl 19 32767) HT_ HW_ hHeld (h := ?_)
            refine one_ (i := 15) (N := some 143) (bl 19 65535) rfl rfl (one_of HT_.out (by kernel_rfl)) (by decide) (fun K hK => ?_)
            refine goes_ Try.func41 (by kernel_rfl) rfl #[.int .i64 t539, .slice Ao7 t540.length co7, .int .i64 t541] (by rfl) rfl rfl (by (try simp only [List.map_toArray, List.map_cons, List.map_nil]); first | done | rfl | (simp only [List.length_drop, List.length_take]; rfl)) ?_
            with_reducible refine (impl_RootOf.calls k2 t539 _ _ t540 t541 t563 _ ?side1 ?side2 A81.out).mono ?_
            (case side1 => repeat (first | exact (Kd.R_reads' HO_4.out).2.2 | (with_reducible refine Kd.C_alloc ?_ _) | (with_reducible refine Kd.C_drewN ?_ _) | (with_reducible refine Kd.C_drew ?_)))
            (case side2 => exact (Kd.R_reads' HO_4.out).2.1)
            rintro e w84 ⟨rfl, hb⟩
            have HS0_ := (hb.cell (World.block_lt_of_cell? _ _ (hHeld.1))).trans (hHeld.1)
            have HS1_ := (hb.cell (World.block_lt_of_cell? _ _ (hHeld.2))).trans (hHeld.2)
            refine ⟨_, rfl, ?_⟩
            have n0_ := Aside0.mk (Kd.R_below (ru HO_4.out) hb)
            have n1_ := Aside0.mk (Kd.R_below (ru HO_6.out) hb)
            have n2_ := Aside0.mk (Kd.R_below (ru HO_7.out) hb)
            have n3_ := Aside0.mk (Kd.R_below (ru HO_8.out) hb)
            have n4_ := Aside0.mk (below_step (bw HB.out) hb)
            clear HO_4
            clear HO_6
            clear HO_7
            clear HO_8
            clear HB
            have HO_4 := n0_
            have HO_6 := n1_
            have HO_7 := n2_
            have HO_8 := n3_
            have HB := n4_
            clear n0_ n1_ n2_ n3_ n4_
            (try clear hb)
            (try clear hb2)
            (try clear hk)
            (try clear hi)
            refine hK.out _ _ ⟨HS0_, HS1_⟩ (fun hHeld => ?_)
            clear hK K
            refine norm_ (a' := ?_) ?_ ?_
            rotate_left
            ·show Act.put _ (some 143) _ = _
             simp only [Act.put, List.setIfInBounds_toArray, List.set_cons_zero, List.set_cons_succ, i64_w, i32_w]
             rfl
            refine pA 16 (some 144) (bl 19 131071) HT_ (h := ?_)
            refine pA 17 (some 145) (bl 19 262143) HT_ (h := ?_)
            refine pA 18 (some 2) (bl 19 524287) HT_ (h := ?_)
            refine done_ (done_of HT_.out (by kernel_rfl)) ?_
            try go_wp2
            go_ret
            exact ⟨by first | rfl | (simp [errW_none, errW_some] <;> rfl) | (simp only [← hji78]; first | rfl | (simp [errW_none, errW_some] <;> rfl)) | (simp [*, errW_none, errW_some] <;> rfl), bw HB.out⟩
           ·rw [if_neg c80] at H
            exact absurd H (by simp)
          ·rw [if_neg c79] at H
           exact absurd H (by simp)
         ·rw [if_neg c77] at H
          have c77b0 : ((rd t544 0) == t541) = false := beq_eq_false_iff_ne.mpr c77
          have c77b1 : ((rd t544 0) != t541) = true := bne_iff_ne.mpr c77
          obtain rfl := Option.some.inj H
          obtain ⟨Ao85, co85, eo85⟩ := Kd.R_slice HO_6.out
          subst eo85
          try go_wp2
          have n0_ := Aside0.mk (Kd.R_drew HO_4.out)
          have n1_ := Aside0.mk (Kd.R_drew HO_6.out)
          have n2_ := Aside0.mk (Kd.R_drew HO_7.out)
          have n3_ := Aside0.mk (Kd.R_drew HO_8.out)
          have n4_ := Aside0.mk (below_drew1 HB.out)
          clear HO_4
          clear HO_6
          clear HO_7
          clear HO_8
          clear HB
          have HO_4 := n0_
          have HO_6 := n1_
          have HO_7 := n2_
          have HO_8 := n3_
          have HB := n4_
          clear n0_ n1_ n2_ n3_ n4_
          have p561 : 0 ≤ (0 : Int) := (by omega)
          have q561 : 0 < (t544.length : Int) := od
          obtain ⟨ad561, e561, hx561_0⟩ := Kd.at_int (Kd.R_reads' HO_6.out).2.2 0 p561 q561
          cases e561
          have qi561 : (0 < t544.length) = True := eq_true (by omega)
          (try rw [show ((0 : Int)).toNat = 0 from rfl] at hx561_0)
          (try rw [Addr.add_zero'] at hx561_0)
          replace p561 := eq_true p561
          replace q561 := eq_true q561
          refine start_ (n := 19) (S := fun w' => w'.cell? ad561 = some (.int .i64 (rd t544 0))) (ds := []) (bl 19 0) (by kernel_rfl) rfl (by kernel_rfl) (hx561_0) (fun hHeld => ?_); refine with_tabW laws_FnWayUp.tab21 laws_FnWayUp.bits21 (fun HT_ HW_ => ?_)
          generalize wr.drew = w86 at HO_4 HO_6 HO_7 HO_8 HB hx561_0 hHeld ⊢
          refine pA 0 (some 128) (bl 19 1) HT_ (h := ?_)
          refine pA 1 (some 129) (bl 19 3) HT_ (h := ?_)
          refine pA 3 (some 131) (bl 19 11) HT_ (h := ?_)
          refine tA 2 (some 130) (bl 19 15) HT_ HW_ hHeld (h := ?_)
          refine pA 4 (some 132) (bl 19 31) HT_ (h := ?_)
          refine pA 5 (some 133) (bl 19 63) HT_ (h := ?_)
          refine pO 6 (some 134) (bl 19 127) HT_ (h := ?_)
          refine pO 7 (some 135) (bl 19 255) HT_ (h := ?_)
          refine pO 8 (some 136) (bl 19 511) HT_ (h := ?_)
          refine pO 9 (some 137) (bl 19 1023) HT_ (h := ?_)
          refine pO 10 (some 138) (bl 19 2047) HT_ (h := ?_)
          refine pO 11 (some 139) (bl 19 4095) HT_ (h := ?_)
          refine pO 12 (some 140) (bl 19 8191) HT_ (h := ?_)
          refine pO 13 (some 141) (bl 19 16383) HT_ (h := ?_)
          refine pO 14 (some 142) (bl 19 32767) HT_ (h := ?_)
          refine pO 15 (some 143) (bl 19 65535) HT_ (h := ?_)
          refine pO 16 (some 144) (bl 19 131071) HT_ (h := ?_)
          refine pA 17 (some 145) (bl 19 262143) HT_ (h := ?_)
          refine pA 18 (some 2) (bl 19 524287) HT_ (h := ?_)
          refine done_ (done_of HT_.out (by kernel_rfl)) ?_
          try go_wp2
          go_ret
          exact ⟨fe, bw HB.out⟩
        ·rw [if_neg c76] at H
         exact absurd H (by simp)

/-- THE ONE PURE STATEMENT of laws_FnWayUp: yours. -/
def laws_FnWayUp.Pure : Prop := ∀ (l0 : List Int), l0.length ≤ maxLen → l0.length * 1 ≤ 140737488351232 → (∀ x ∈ l0, (Lit.int .u8 x).wf = true) → ∃ k, laws_FnWayUp.f k l0 = some true
theorem laws_FnWayUp.walk (P : laws_FnWayUp.Pure) (a0 : Option Addr) (len0 cap0 : Nat) (z0 : List Int) (w : World) (w0 : (a0 = none ∧ len0 = 0 ∧ cap0 = 0 ∧ z0 = []) ∨ ∃ x, a0 = some x ∧ len0 ≤ cap0 ∧ cap0 ≤ maxLen ∧ z0.length = cap0 ∧ (∀ i, i < z0.length → w.cell? (x.add i) = some (.int .u8 (z0.getD i 0))) ∧ ∀ n ∈ z0, (Lit.int .u8 n).wf = true) (y0 : len0 * 1 ≤ 140737488351232) :
  Calls Try.prog 6 #[.slice a0 len0 cap0] w fun e w' => e = .returned (.bool true) ∧ Below w.heap.size w w' := by
 obtain ⟨l0, rfl, hr0, hm0, hw0, hc0⟩ := ReadsInt.ofRowC w0
 obtain ⟨k, h⟩ := P l0 hm0 y0 hw0
 refine (laws_FnWayUp.calls k _ _ l0 true w (Kd.C_of_reads (d := (0 : Int)) (h1 := fun _ => rfl) hr0) hc0 h).mono ?_
 rintro e w' ⟨rfl, hd⟩
 exact ⟨rfl, hd⟩

end Go.Proofs.Ytegnghbgkiddoaa.PA
