-- Laid by this session's own program (pr.py) over the translation; Lean checks it.
import Derived.Test.YtegnghbgkiddoaaPA0
import Derived.Test.YtegnghbgkiddoaaPA2
import Derived.Test.YtegnghbgkiddoaaPA3
import Derived.Test.YtegnghbgkiddoaaPA4
import Derived.Test.YtegnghbgkiddoaaPA17
import Derived.Test.YtegnghbgkiddoaaPA27
import Derived.Test.YtegnghbgkiddoaaHSq
import Derived.Test.YtegnghbgkiddoaaWRepsOne
namespace Go.Proofs.Ytegnghbgkiddoaa.PA
open Go.RowKit Go.Proofs.YtegnghbgkiddoaaW.PrintWords Go.Proofs.YtegnghbgkiddoaaW.PrintLast Go.Proofs.YtegnghbgkiddoaaW.PrintMore
attribute [local go_sem] max2_int min2_int max_two min_two max_three min_three max_four min_four   -- for this text's walks alone
set_option linter.unusedVariables false
set_option linter.unusedSimpArgs false

/-! ### spec_NextClaims: function 53 -/
-- IMPORT HSq
mutual
def spec_NextClaims.j0 : Nat → Int → List (S44) → List (List Int) → Bool → Option ((List (List Int)))
 | 0, _, _, _, _ => none
 | k + 1, x0, x1, x2, x22 => if x22 = true then (some (([] : List (List Int)))) else (spec_NextClaims.l0 k x0 x1 x2 0)
def spec_NextClaims.l0 : Nat → Int → List (S44) → List (List Int) → Int → Option ((List (List Int)))
 | 0, _, _, _, _ => none
 | k + 1, x0, x1, x2, x7 => if x7 < x0 then (if 0 ≤ x7 then (if x7 < (x2.length : Int) then (if ((rd_L5 x2 x7).length : Int) = 4 then (if 1 < ((rd_L5 x2 x7).length : Int) then ((spec_l1In.f (rd (rd_L5 x2 x7) 1) 0 10000).bind fun t638 => (if t638 = true then (spec_NextClaims.l0 k x0 x1 x2 (wrap64 (x7 + 1))) else (some (([] : List (List Int)))))) else (none)) else (some (([] : List (List Int))))) else (none)) else (none)) else ((spec_FirstClaims.f k x0).bind fun t645 => (spec_NextClaims.l1 k x0 x1 x2 t645 0))
def spec_NextClaims.l1 : Nat → Int → List (S44) → List (List Int) → List (List Int) → Int → Option ((List (List Int)))
 | 0, _, _, _, _, _ => none
 | k + 1, x0, x1, x2, x8, x9 => if x9 < x0 then (spec_NextClaims.l2 k x0 x1 x2 x8 x9 0) else (some x8)
def spec_NextClaims.l2 : Nat → Int → List (S44) → List (List Int) → List (List Int) → Int → Int → Option ((List (List Int)))
 | 0, _, _, _, _, _, _ => none
 | k + 1, x0, x1, x2, x8, x9, x10 => if x10 < (x1.length : Int) then (if 0 ≤ x10 then ((spec_l7Other.f ((rd_T44 x1 x10).f0) ((rd_T44 x1 x10).f1) ((rd_T44 x1 x10).f2) x9).bind fun t649 => (if t649 < 0 then (spec_NextClaims.l2 k x0 x1 x2 x8 x9 (wrap64 (x10 + 1))) else (if 0 ≤ t649 then (if t649 < (x2.length : Int) then (if 0 < ((rd_L5 x2 t649).length : Int) then (if 1 < ((rd_L5 x2 t649).length : Int) then ((some (([rd (rd_L5 x2 t649) 0, wrap64 ((rd (rd_L5 x2 t649) 1) + ((rd_T44 x1 x10).f2)), t649, x10] : List Int) : List Int)).bind fun y655 => (if 0 ≤ x9 then (if x9 < (x8.length : Int) then ((spec_l7Less.f k y655 (rd_L5 x8 x9)).bind fun t659 => (if t659 = true then (spec_NextClaims.l2 k x0 x1 x2 (x8.set (x9 : Int).toNat y655) x9 (wrap64 (x10 + 1))) else (spec_NextClaims.l2 k x0 x1 x2 x8 x9 (wrap64 (x10 + 1))))) else (none)) else (none))) else (none)) else (none)) else (none)) else (none)))) else (none)) else (spec_NextClaims.l1 k x0 x1 x2 x8 (wrap64 (x9 + 1)))
end
def spec_NextClaims.f (k : Nat) (a0 : Int) (l1 : List (S44)) (l2 : List (List Int)) : Option ((List (List Int))) := (spec_CablesValid.f k a0 l1).bind fun t631 => (if t631 = true then (spec_NextClaims.j0 k a0 l1 l2 ((l2.length : Int) != a0)) else (spec_NextClaims.j0 k a0 l1 l2 true))
def spec_NextClaims.T17 : Bool × List (List Nat × List Nat) := (true, [([], []), ([], []), ([0, 1], [0, 1]), ([2], [2]), ([3], [3]), ([4], [4]), ([], []), ([], []), ([6, 7], [6, 7]), ([8], [8]), ([9], [9]), ([10], [10]), ([], []), ([], []), ([12, 13], [12, 13]), ([14], [14]), ([15], [15]), ([11, 16], [11, 16]), ([], []), ([], []), ([5, 17, 18, 19], [5, 17, 18, 19]), ([20, 0, 1, 2, 3, 4, 5, 6, 7, 8, 9, 10, 11, 12, 13, 14, 15, 16, 17, 18, 19, 20], [20])])
def spec_NextClaims.B17 : List Nat := [0, 0, 3, 7, 15, 31, 0, 0, 192, 448, 960, 1984, 0, 0, 12288, 28672, 61440, 131008, 0, 0, 1048575, 2097151]
theorem spec_NextClaims.tab17 : rtab .any (opsOf Try.f53 17) = spec_NextClaims.T17 := by kernel_rfl
theorem spec_NextClaims.bits17 : waitsOk spec_NextClaims.T17.2 spec_NextClaims.B17 = true := by kernel_rfl
set_option maxHeartbeats 8000000 in
set_option maxRecDepth 100000 in
theorem spec_NextClaims.calls (k : Nat) (a0 : Int) (A1 : Option Addr) (c1 : Nat) (l1 : List (S44)) (A2 : Option Addr) (c2 : Nat) (l2 : List (List Int)) (r : List (List Int)) (w : World) (hr1 : Kd.C k44 w A1 l1.length l1) (hc1 : l1.length ≤ c1) (hr2 : Kd.C (Kd.slice 3 (Kd.int .i64)) w A2 l2.length l2) (hc2 : l2.length ≤ c2) (h : spec_NextClaims.f k a0 l1 l2 = some r) :
  Calls Try.prog 53 #[.int .i64 a0, .slice A1 l1.length c1, .slice A2 l2.length c2] w fun e w' => ∃ v0_ : Value, e = .returned (v0_) ∧ Kd.S (Kd.slice 3 (Kd.int .i64)) 24 w' w.heap.size (fun _ => True) v0_ r ∧ Below w.heap.size w w' := by
 have hu44 := Try.underlying44
 have HR1 := Aside0.mk hr1
 have HC1 := Aside0.mk hc1
 clear hr1 hc1
 have HR2 := Aside0.mk hr2
 have HC2 := Aside0.mk hc2
 clear hr2 hc2
 have HB := Aside0.mk (Below.refl w.heap.size w)
 have H : ((spec_CablesValid.f k a0 l1).bind fun t631 => (if t631 = true then (spec_NextClaims.j0 k a0 l1 l2 ((l2.length : Int) != a0)) else (spec_NextClaims.j0 k a0 l1 l2 true))) = some r := h
 clear h
 have HC4 := Aside0.mk H
 clear H
 go_enter Try.func53, Try.ntmps53
 go_upto_region 1 with (fail)
 go_cut [22] (fun v22 wc => ∃ (kq : Nat) (x22_3 : Bool), v22 = .bool x22_3 ∧ Aside0 (spec_NextClaims.j0 kq a0 l1 l2 x22_3 = some r) ∧ Aside0 (kq ≤ k) ∧ Aside0 (Below w.heap.size w wc))
 case first =>
  have H := HC4.out
  clear HC4
  replace H := Option.bind_eq_some_iff.mp H
  obtain ⟨t631, A50, H⟩ := H
  try dsimp only at H
  have A5 := Aside0.mk A50
  clear A50
  by_cases c6 : t631 = true
  ·subst c6
   rw [if_pos rfl] at H
   have H' := Aside0.mk H
   clear H
   go_wp2_with (first | ((with_reducible refine gate_callee (f := 34) rfl ?_); refine goesL_ (some 15) rfl rfl Try.func34 (by kernel_rfl) rfl #[.int .i64 a0, .slice A1 l1.length c1] rfl (by (try simp only [List.map_toArray, List.map_cons, List.map_nil]); first | done | rfl | (simp only [List.length_drop, List.length_take]; rfl)) ?_; (with_reducible refine (spec_CablesValid.calls k a0 _ _ l1 true _ ?side1 ?side2 A5.out).mono ?_); (case side1 => repeat (first | exact (Kd.C_below HR1.out HB.out) | (with_reducible refine Kd.C_alloc ?_ _) | (with_reducible refine Kd.C_drewN ?_ _) | (with_reducible refine Kd.C_drew ?_))); (case side2 => exact HC1.out); rintro e w7 ⟨rfl, hb⟩; refine ⟨_, rfl, ?_⟩; have n0_ := Aside0.mk (below_step (bw HB.out) hb); clear HB; have HB := n0_; clear n0_; (try clear hb); (try clear hb2); (try clear hk); (try clear hi)))
   go_meet
   case rel => exact ⟨_, (((l2.length : Int) != a0)), fs, H', ⟨by first | omega | exact Nat.le_refl _⟩, ⟨bw HB.out⟩⟩
  ·replace c6 := Bool.eq_false_iff.mpr c6
   subst c6
   rw [if_neg (show ¬ (false = true) by decide)] at H
   have H' := Aside0.mk H
   clear H
   go_wp2_with (first | ((with_reducible refine gate_callee (f := 34) rfl ?_); refine goesL_ (some 15) rfl rfl Try.func34 (by kernel_rfl) rfl #[.int .i64 a0, .slice A1 l1.length c1] rfl (by (try simp only [List.map_toArray, List.map_cons, List.map_nil]); first | done | rfl | (simp only [List.length_drop, List.length_take]; rfl)) ?_; (with_reducible refine (spec_CablesValid.calls k a0 _ _ l1 false _ ?side1 ?side2 A5.out).mono ?_); (case side1 => repeat (first | exact (Kd.C_below HR1.out HB.out) | (with_reducible refine Kd.C_alloc ?_ _) | (with_reducible refine Kd.C_drewN ?_ _) | (with_reducible refine Kd.C_drew ?_))); (case side2 => exact HC1.out); rintro e w8 ⟨rfl, hb⟩; refine ⟨_, rfl, ?_⟩; have n0_ := Aside0.mk (below_step (bw HB.out) hb); clear HB; have HB := n0_; clear n0_; (try clear hb); (try clear hb2); (try clear hk); (try clear hi)))
   go_meet
   case rel => exact ⟨_, (true), fs, H', ⟨by first | omega | exact Nat.le_refl _⟩, ⟨bw HB.out⟩⟩
 case rest =>
  clear HC4
  try clear c1
  try clear c2
  try clear p2
  try clear c3
  try clear c5
  try clear c6
  obtain ⟨kq, x22_3, rfl, HA, HJ3, HB⟩ := hcut
  cases kq with
  | zero => exact absurd HA.out (by simp [spec_NextClaims.j0])
  | succ kj3 =>
   have H := HA.out
   clear HA
   simp only [spec_NextClaims.j0] at H
   by_cases c9 : x22_3 = true
   ·subst c9
    rw [if_pos rfl] at H
    obtain ⟨y632, hy632⟩ : ∃ y_ : List (List Int), y_ = (([] : List (List Int))) := ⟨_, rfl⟩
    replace H : (some y632) = some r := by first | (rw [hy632]; with_reducible exact H) | (have H2_ := (Option.bind_some _ _).symm.trans H; rw [hy632]; with_reducible exact H2_) | (have H2_ := (Option.bind_some _ _).symm.trans H; with_reducible exact H2_) | with_reducible exact H | (rw [hy632]; exact H) | exact H
    have Ny632 := Aside0.mk hy632
    clear hy632
    obtain rfl := Option.some.inj H
    go_wp2_with (first | ((with_reducible refine gate_dst (N := 23) rfl ?_); (try (refine gate_guard (by rfl) ?_; dsimp only)); refine Kd.S_lit (Kd.slice 3 (Kd.int .i64)) _ 24 ?hg (N := 23) ?hd (xs := ([] : List (List Int))) (inner := []) (ok := fun _ => True) (okp := fun _ => True) ?hr ?hp (fun _ hk => hk) trivial (Below.refl _ _) (Nat.le_refl _) (by simp) ?_; (case hd => rfl); (case hg => rfl); (case hr => first | (go_simp; done) | (go_simp; rfl)); (case hp => exact (Reps.none _ _)); intro v633 w10 ho11 hb hg_ hnew_; clear hg_ hnew_; (first | rw [← Ny632.out] at ho11 | (simp only [Int.reduceToNat] at ho11; rw [← Ny632.out] at ho11)); have n0_ := Aside0.mk (Kd.S_lower ho11 (below_size (bw HB.out))); have n1_ := Aside0.mk (below_step (bw HB.out) hb); clear HB; have HO634 := n0_; have HB := n1_; clear n0_ n1_; clear hb ho11))
    go_ret
    exact ⟨_, fe, by (with_reducible repeat (first | apply Kd.S_alloc | apply Kd.S_drewN | apply Kd.S_drew)); exact HO634.out, bw HB.out⟩
   ·replace c9 := Bool.eq_false_iff.mpr c9
    subst c9
    rw [if_neg (show ¬ (false = true) by decide)] at H
    have H' := Aside0.mk H
    clear H
    go_wp2
    go_loopg [7] kj3 (fun kq v7 w' => ∃ (x7_2 : Int), v7 = .int .i64 x7_2 ∧ Aside0 (spec_NextClaims.l0 kq a0 l1 l2 x7_2 = some r) ∧ Aside0 (kq ≤ kj3) ∧ Aside0 (Below w.heap.size w w'))
    case atStart => exact ⟨(0), fs, H', ⟨Nat.le_refl _⟩, ⟨bw HB.out⟩⟩
    case round =>
     clear H'
     try clear c1
     try clear c2
     try clear p2
     try clear c3
     try clear c5
     try clear c6
     try clear c9
     try clear p2
     obtain ⟨x7_2, rfl, HA, HK2, HB⟩ := hrel
     cases gk with
     | zero => exact absurd HA.out (by simp [spec_NextClaims.l0])
     | succ k2 =>
      have H := HA.out
      clear HA
      simp only [spec_NextClaims.l0] at H
      by_cases c12 : x7_2 < a0
      ·rw [if_pos c12] at H
       have c12b0 : decide (x7_2 < a0) = true := decide_eq_true c12
       clear c12
       by_cases c13 : 0 ≤ x7_2
       ·rw [if_pos c13] at H
        have c13b0 : decide (0 ≤ x7_2) = true := decide_eq_true c13
        clear c13
        by_cases c14 : x7_2 < (l2.length : Int)
        ·rw [if_pos c14] at H
         have c14b0 : decide (x7_2 < (l2.length : Int)) = true := decide_eq_true c14
         clear c14
         by_cases c15 : ((rd_L5 l2 x7_2).length : Int) = 4
         ·rw [if_pos c15] at H
          have c15b0 : (((rd_L5 l2 x7_2).length : Int) == 4) = true := beq_iff_eq.mpr c15
          have c15b1 : (((rd_L5 l2 x7_2).length : Int) != 4) = false := bne_eq_false_iff_eq.mpr c15
          clear c15
          by_cases c16 : 1 < ((rd_L5 l2 x7_2).length : Int)
          ·rw [if_pos c16] at H
           have c16b0 : decide (1 < ((rd_L5 l2 x7_2).length : Int)) = true := decide_eq_true c16
           have c16b1 : decide (1 < (rd_L5 l2 x7_2).length) = true := decide_eq_true (by omega)
           clear c16
           replace H := Option.bind_eq_some_iff.mp H
           obtain ⟨t638, A170, H⟩ := H
           try dsimp only at H
           have A17 := Aside0.mk A170
           clear A170
           by_cases c18 : t638 = true
           ·subst c18
            rw [if_pos rfl] at H
            have H' := Aside0.mk H
            clear H
            have p635 : 0 ≤ (x7_2 : Int) := od
            have q635 : x7_2 < (l2.length : Int) := od
            obtain ⟨ad635, A635_0, c635_0, e635, hx635_0, hl635_0, hi635_0⟩ := at_L5 HR2.out x7_2 p635 q635
            cases e635
            (try replace hx635_0 := (HB.out.cell (World.block_lt_of_cell? w _ hx635_0)).trans hx635_0)
            have HR635_0 := Aside0.mk hi635_0
            have HC635_0 := Aside0.mk hl635_0
            clear hi635_0 hl635_0
            replace p635 := eq_true p635
            replace q635 := eq_true q635
            have p636 : 0 ≤ (x7_2 : Int) := od
            have q636 : x7_2 < (l2.length : Int) := od
            obtain ⟨ad636, A636_0, c636_0, e636, hx636_0, hl636_0, hi636_0⟩ := at_L5 HR2.out x7_2 p636 q636
            obtain rfl : ad635 = ad636 := (by injection e636)
            (try replace hx636_0 := (HB.out.cell (World.block_lt_of_cell? w _ hx636_0)).trans hx636_0)
            have HR636_0 := Aside0.mk hi636_0
            have HC636_0 := Aside0.mk hl636_0
            clear hi636_0 hl636_0
            replace p636 := eq_true p636
            replace q636 := eq_true q636
            have ea_ := Option.some.inj (hx635_0.symm.trans hx636_0)
            injection ea_ with ea_ en_ ec_
            subst ea_
            subst ec_
            clear en_
            have p637 : 0 ≤ (1 : Int) := (by omega)
            have q637 : 1 < ((rd_L5 l2 x7_2).length : Int) := od
            obtain ⟨ad637, e637, hx637_0⟩ := Kd.at_int HR636_0.out 1 p637 q637
            cases e637
            (try simp only [show (1 : Int).toNat = 1 from rfl, Nat.reduceMul, Nat.reduceEqDiff, Go.Addr.add, ↓reduceIte] at hx637_0)
            have qi637 : (1 < (rd_L5 l2 x7_2).length) = True := eq_true (by omega)
            (try rw [show ((1 : Int)).toNat = 1 from rfl] at hx637_0)
            (try replace hx637_0 := (HB.out.cell (World.block_lt_of_cell? w _ hx637_0)).trans hx637_0)
            replace p637 := eq_true p637
            replace q637 := eq_true q637
            go_wp2_with (first | (go_at_call 71; (with_reducible refine (spec_l1In.calls (rd (rd_L5 l2 x7_2) 1) 0 10000 true _ A17.out).mono ?_); rintro e w' ⟨rfl, ⟨nd, rfl⟩⟩))
            go_roundg k2
            case measure => have := HJ3.out; have := HK2.out; omega
            case rel => exact ⟨(wrap64 (x7_2 + 1)), fs, H', ⟨by have := HJ3.out; have := HK2.out; omega⟩, ⟨bw HB.out⟩⟩
           ·replace c18 := Bool.eq_false_iff.mpr c18
            subst c18
            rw [if_neg (show ¬ (false = true) by decide)] at H
            obtain ⟨y639, hy639⟩ : ∃ y_ : List (List Int), y_ = (([] : List (List Int))) := ⟨_, rfl⟩
            replace H : (some y639) = some r := by first | (rw [hy639]; with_reducible exact H) | (have H2_ := (Option.bind_some _ _).symm.trans H; rw [hy639]; with_reducible exact H2_) | (have H2_ := (Option.bind_some _ _).symm.trans H; with_reducible exact H2_) | with_reducible exact H | (rw [hy639]; exact H) | exact H
            have Ny639 := Aside0.mk hy639
            clear hy639
            obtain rfl := Option.some.inj H
            have p635 : 0 ≤ (x7_2 : Int) := od
            have q635 : x7_2 < (l2.length : Int) := od
            obtain ⟨ad635, A635_0, c635_0, e635, hx635_0, hl635_0, hi635_0⟩ := at_L5 HR2.out x7_2 p635 q635
            cases e635
            (try replace hx635_0 := (HB.out.cell (World.block_lt_of_cell? w _ hx635_0)).trans hx635_0)
            have HR635_0 := Aside0.mk hi635_0
            have HC635_0 := Aside0.mk hl635_0
            clear hi635_0 hl635_0
            replace p635 := eq_true p635
            replace q635 := eq_true q635
            have p636 : 0 ≤ (x7_2 : Int) := od
            have q636 : x7_2 < (l2.length : Int) := od
            obtain ⟨ad636, A636_0, c636_0, e636, hx636_0, hl636_0, hi636_0⟩ := at_L5 HR2.out x7_2 p636 q636
            obtain rfl : ad635 = ad636 := (by injection e636)
            (try replace hx636_0 := (HB.out.cell (World.block_lt_of_cell? w _ hx636_0)).trans hx636_0)
            have HR636_0 := Aside0.mk hi636_0
            have HC636_0 := Aside0.mk hl636_0
            clear hi636_0 hl636_0
            replace p636 := eq_true p636
            replace q636 := eq_true q636
            have ea_ := Option.some.inj (hx635_0.symm.trans hx636_0)
            injection ea_ with ea_ en_ ec_
            subst ea_
            subst ec_
            clear en_
            have p637 : 0 ≤ (1 : Int) := (by omega)
            have q637 : 1 < ((rd_L5 l2 x7_2).length : Int) := od
            obtain ⟨ad637, e637, hx637_0⟩ := Kd.at_int HR636_0.out 1 p637 q637
            cases e637
            (try simp only [show (1 : Int).toNat = 1 from rfl, Nat.reduceMul, Nat.reduceEqDiff, Go.Addr.add, ↓reduceIte] at hx637_0)
            have qi637 : (1 < (rd_L5 l2 x7_2).length) = True := eq_true (by omega)
            (try rw [show ((1 : Int)).toNat = 1 from rfl] at hx637_0)
            (try replace hx637_0 := (HB.out.cell (World.block_lt_of_cell? w _ hx637_0)).trans hx637_0)
            replace p637 := eq_true p637
            replace q637 := eq_true q637
            go_wp2_with (first | (go_at_call 71; (with_reducible refine (spec_l1In.calls (rd (rd_L5 l2 x7_2) 1) 0 10000 false _ A17.out).mono ?_); rintro e w' ⟨rfl, ⟨nd, rfl⟩⟩) | ((with_reducible refine gate_dst (N := 45) rfl ?_); (try (refine gate_guard (by rfl) ?_; dsimp only)); refine Kd.S_lit (Kd.slice 3 (Kd.int .i64)) _ 24 ?hg (N := 45) ?hd (xs := ([] : List (List Int))) (inner := []) (ok := fun _ => True) (okp := fun _ => True) ?hr ?hp (fun _ hk => hk) trivial (Below.refl _ _) (Nat.le_refl _) (by simp) ?_; (case hd => rfl); (case hg => rfl); (case hr => first | (go_simp; done) | (go_simp; rfl)); (case hp => exact (Reps.none _ _)); intro v640 w19 ho20 hb hg_ hnew_; clear hg_ hnew_; (first | rw [← Ny639.out] at ho20 | (simp only [Int.reduceToNat] at ho20; rw [← Ny639.out] at ho20)); have n0_ := Aside0.mk (Kd.S_lower ho20 (below_size (bw HB.out))); have n1_ := Aside0.mk (below_step (bw HB.out) hb); clear HB; have HO641 := n0_; have HB := n1_; clear n0_ n1_; clear hb ho20))
            go_ret
            exact ⟨_, fe, by (with_reducible repeat (first | apply Kd.S_alloc | apply Kd.S_drewN | apply Kd.S_drew)); exact HO641.out, bw HB.out⟩
          ·rw [if_neg c16] at H
           exact absurd H (by simp)
         ·rw [if_neg c15] at H
          have c15b0 : (((rd_L5 l2 x7_2).length : Int) == 4) = false := beq_eq_false_iff_ne.mpr c15
          have c15b1 : (((rd_L5 l2 x7_2).length : Int) != 4) = true := bne_iff_ne.mpr c15
          obtain ⟨y642, hy642⟩ : ∃ y_ : List (List Int), y_ = (([] : List (List Int))) := ⟨_, rfl⟩
          replace H : (some y642) = some r := by first | (rw [hy642]; with_reducible exact H) | (have H2_ := (Option.bind_some _ _).symm.trans H; rw [hy642]; with_reducible exact H2_) | (have H2_ := (Option.bind_some _ _).symm.trans H; with_reducible exact H2_) | with_reducible exact H | (rw [hy642]; exact H) | exact H
          have Ny642 := Aside0.mk hy642
          clear hy642
          obtain rfl := Option.some.inj H
          have p635 : 0 ≤ (x7_2 : Int) := od
          have q635 : x7_2 < (l2.length : Int) := od
          obtain ⟨ad635, A635_0, c635_0, e635, hx635_0, hl635_0, hi635_0⟩ := at_L5 HR2.out x7_2 p635 q635
          cases e635
          (try replace hx635_0 := (HB.out.cell (World.block_lt_of_cell? w _ hx635_0)).trans hx635_0)
          have HR635_0 := Aside0.mk hi635_0
          have HC635_0 := Aside0.mk hl635_0
          clear hi635_0 hl635_0
          replace p635 := eq_true p635
          replace q635 := eq_true q635
          go_wp2_with (first | ((with_reducible refine gate_dst (N := 45) rfl ?_); (try (refine gate_guard (by rfl) ?_; dsimp only)); refine Kd.S_lit (Kd.slice 3 (Kd.int .i64)) _ 24 ?hg (N := 45) ?hd (xs := ([] : List (List Int))) (inner := []) (ok := fun _ => True) (okp := fun _ => True) ?hr ?hp (fun _ hk => hk) trivial (Below.refl _ _) (Nat.le_refl _) (by simp) ?_; (case hd => rfl); (case hg => rfl); (case hr => first | (go_simp; done) | (go_simp; rfl)); (case hp => exact (Reps.none _ _)); intro v643 w21 ho22 hb hg_ hnew_; clear hg_ hnew_; (first | rw [← Ny642.out] at ho22 | (simp only [Int.reduceToNat] at ho22; rw [← Ny642.out] at ho22)); have n0_ := Aside0.mk (Kd.S_lower ho22 (below_size (bw HB.out))); have n1_ := Aside0.mk (below_step (bw HB.out) hb); clear HB; have HO644 := n0_; have HB := n1_; clear n0_ n1_; clear hb ho22))
          go_ret
          exact ⟨_, fe, by (with_reducible repeat (first | apply Kd.S_alloc | apply Kd.S_drewN | apply Kd.S_drew)); exact HO644.out, bw HB.out⟩
        ·rw [if_neg c14] at H
         exact absurd H (by simp)
       ·rw [if_neg c13] at H
        exact absurd H (by simp)
      ·rw [if_neg c12] at H
       have c12b0 : decide (x7_2 < a0) = false := decide_eq_false c12
       clear c12
       replace H := Option.bind_eq_some_iff.mp H
       obtain ⟨t645, A230, H⟩ := H
       try dsimp only at H
       have A23 := Aside0.mk A230
       clear A230
       have H' := Aside0.mk H
       clear H
       go_wp2_with (first | ((with_reducible refine gate_callee (f := 29) rfl ?_); refine goesL_ (some 47) rfl rfl Try.func29 (by kernel_rfl) rfl #[.int .i64 a0] rfl (by (try simp only [List.map_toArray, List.map_cons, List.map_nil]); first | done | rfl | (simp only [List.length_drop, List.length_take]; rfl)) ?_; (with_reducible refine (spec_FirstClaims.calls k2 a0 t645 _ A23.out).mono ?_); rintro e w24 ⟨v646, rfl, ho0, hb⟩; refine ⟨_, rfl, ?_⟩; have n0_ := Aside0.mk (Kd.S_lower ho0 (below_size (bw HB.out))); have n1_ := Aside0.mk (below_step (bw HB.out) hb); clear HB; have HO647 := n0_; have HB := n1_; clear n0_ n1_; (try clear hb); (try clear hb2); (try clear hk); (try clear hi); (try clear ho0)))
       go_loopg [9] k2 (fun kq v9 w' => ∃ (x8_3 : List (List Int)) (x9_3 : Int), v9 = .int .i64 x9_3 ∧ Aside0 (spec_NextClaims.l1 kq a0 l1 l2 x8_3 x9_3 = some r) ∧ Aside0 (kq ≤ k2) ∧ Aside0 (Kd.S (Kd.slice 3 (Kd.int .i64)) 24 w' w.heap.size (fun _ => True) v646 x8_3) ∧ Aside0 (Below w.heap.size w w'))
       case atStart => exact ⟨(t645), (0), fs, H', ⟨Nat.le_refl _⟩, ⟨by (with_reducible repeat (first | apply Kd.S_alloc | apply Kd.S_drewN | apply Kd.S_drew)); exact HO647.out⟩, ⟨bw HB.out⟩⟩
       case round =>
        clear H'
        try clear c1
        try clear c2
        try clear p2
        try clear c3
        try clear c5
        try clear c6
        try clear p6
        try clear q6
        try clear hx6
        try clear qi6
        try clear c9
        try clear c12
        try clear c12b0
        try clear c13
        try clear c13b0
        try clear c14
        try clear c14b0
        try clear c15
        try clear c15b0
        try clear c15b1
        try clear c16
        try clear c16b0
        try clear c16b1
        try clear c18
        try clear hx635_0
        try clear hx636_0
        try clear hx637_0
        try clear p2
        try clear p635
        try clear p636
        try clear p637
        try clear q635
        try clear q636
        try clear q637
        obtain ⟨x8_3, x9_3, rfl, HA, HK3, HO_8, HB⟩ := hrel
        cases gk with
        | zero => exact absurd HA.out (by simp [spec_NextClaims.l1])
        | succ k3 =>
         have H := HA.out
         clear HA
         simp only [spec_NextClaims.l1] at H
         by_cases c25 : x9_3 < a0
         ·rw [if_pos c25] at H
          have c25b0 : decide (x9_3 < a0) = true := decide_eq_true c25
          clear c25
          have H' := Aside0.mk H
          clear H
          go_wp2
          go_loopg [10] k3 (fun kq v10 w' => ∃ (x8_4 : List (List Int)) (x10_4 : Int), v10 = .int .i64 x10_4 ∧ Aside0 (spec_NextClaims.l2 kq a0 l1 l2 x8_4 x9_3 x10_4 = some r) ∧ Aside0 (kq ≤ k3) ∧ Aside0 (Kd.S (Kd.slice 3 (Kd.int .i64)) 24 w' w.heap.size (fun _ => True) v646 x8_4) ∧ Aside0 (Below w.heap.size w w'))
          case atStart => exact ⟨(x8_3), (0), fs, H', ⟨Nat.le_refl _⟩, ⟨by (with_reducible repeat (first | apply Kd.S_alloc | apply Kd.S_drewN | apply Kd.S_drew)); exact HO_8.out⟩, ⟨bw HB.out⟩⟩
          case round =>
           clear H'
           try clear c1
           try clear c2
           try clear p2
           try clear c3
           try clear c5
           try clear c6
           try clear p6
           try clear q6
           try clear hx6
           try clear qi6
           try clear c9
           try clear c12
           try clear c12b0
           try clear c13
           try clear c13b0
           try clear c14
           try clear c14b0
           try clear c15
           try clear c15b0
           try clear c15b1
           try clear c16
           try clear c16b0
           try clear c16b1
           try clear c18
           try clear c25
           try clear c25b0
           try clear hx635_0
           try clear hx636_0
           try clear hx637_0
           try clear p2
           try clear p6
           try clear p635
           try clear p636
           try clear p637
           try clear q6
           try clear q635
           try clear q636
           try clear q637
           obtain ⟨x8_4, x10_4, rfl, HA, HK4, HO_8, HB⟩ := hrel
           cases gk with
           | zero => exact absurd HA.out (by simp [spec_NextClaims.l2])
           | succ k4 =>
            have H := HA.out
            clear HA
            simp only [spec_NextClaims.l2] at H
            by_cases c26 : x10_4 < (l1.length : Int)
            ·rw [if_pos c26] at H
             have c26b0 : decide (x10_4 < (l1.length : Int)) = true := decide_eq_true c26
             clear c26
             by_cases c27 : 0 ≤ x10_4
             ·rw [if_pos c27] at H
              have c27b0 : decide (0 ≤ x10_4) = true := decide_eq_true c27
              clear c27
              replace H := Option.bind_eq_some_iff.mp H
              obtain ⟨t649, A280, H⟩ := H
              try dsimp only at H
              have A28 := Aside0.mk A280
              clear A280
              by_cases c29 : t649 < 0
              ·rw [if_pos c29] at H
               have c29b0 : decide (t649 < 0) = true := decide_eq_true c29
               clear c29
               have H' := Aside0.mk H
               clear H
               have p648 : 0 ≤ (x10_4 : Int) := od
               have q648 : x10_4 < (l1.length : Int) := od
               obtain ⟨ad648, e648, hx648_0, hx648_1, hx648_2⟩ := at_T44 HR1.out x10_4 p648 q648
               cases e648
               (try replace hx648_0 := (HB.out.cell (World.block_lt_of_cell? w _ hx648_0)).trans hx648_0)
               (try replace hx648_1 := (HB.out.cell (World.block_lt_of_cell? w _ hx648_1)).trans hx648_1)
               (try replace hx648_2 := (HB.out.cell (World.block_lt_of_cell? w _ hx648_2)).trans hx648_2)
               replace p648 := eq_true p648
               replace q648 := eq_true q648
               go_wp2_with (first | ((with_reducible refine gate_callee (f := 74) rfl ?_); refine goesL_ (some 64) rfl rfl Try.func74 (by kernel_rfl) rfl #[.agg #[.int .i64 ((rd_T44 l1 x10_4).f0), .int .i64 ((rd_T44 l1 x10_4).f1), .int .i64 ((rd_T44 l1 x10_4).f2)], .int .i64 x9_3] rfl (by (try simp only [List.map_toArray, List.map_cons, List.map_nil]); first | done | rfl | (simp only [List.length_drop, List.length_take]; rfl)) ?_; (with_reducible refine (spec_l7Other.calls ((rd_T44 l1 x10_4).f0) ((rd_T44 l1 x10_4).f1) ((rd_T44 l1 x10_4).f2) x9_3 t649 _ A28.out).mono ?_); rintro e w30 ⟨rfl, hb⟩; refine ⟨_, rfl, ?_⟩; have n0_ := Aside0.mk (Kd.S_below (by (with_reducible repeat (first | apply Kd.S_alloc | apply Kd.S_drewN | apply Kd.S_drew)); exact HO_8.out) hb); have n1_ := Aside0.mk (below_step (bw HB.out) hb); clear HO_8; clear HB; have HO_8 := n0_; have HB := n1_; clear n0_ n1_; (try clear hb); (try clear hb2); (try clear hk); (try clear hi)))
               go_roundg k4
               case measure => have := HJ3.out; have := HK2.out; have := HK3.out; have := HK4.out; omega
               case rel => exact ⟨(x8_4), (wrap64 (x10_4 + 1)), fs, H', ⟨by have := HJ3.out; have := HK2.out; have := HK3.out; have := HK4.out; omega⟩, ⟨by (with_reducible repeat (first | apply Kd.S_alloc | apply Kd.S_drewN | apply Kd.S_drew)); exact HO_8.out⟩, ⟨bw HB.out⟩⟩
              ·rw [if_neg c29] at H
               have c29b0 : decide (t649 < 0) = false := decide_eq_false c29
               clear c29
               by_cases c31 : 0 ≤ t649
               ·rw [if_pos c31] at H
                have c31b0 : decide (0 ≤ t649) = true := decide_eq_true c31
                clear c31
                by_cases c32 : t649 < (l2.length : Int)
                ·rw [if_pos c32] at H
                 have c32b0 : decide (t649 < (l2.length : Int)) = true := decide_eq_true c32
                 clear c32
                 by_cases c33 : 0 < ((rd_L5 l2 t649).length : Int)
                 ·rw [if_pos c33] at H
                  have c33b0 : decide (0 < ((rd_L5 l2 t649).length : Int)) = true := decide_eq_true c33
                  have c33b1 : decide (0 < (rd_L5 l2 t649).length) = true := decide_eq_true (by omega)
                  clear c33
                  by_cases c34 : 1 < ((rd_L5 l2 t649).length : Int)
                  ·rw [if_pos c34] at H
                   have c34b0 : decide (1 < ((rd_L5 l2 t649).length : Int)) = true := decide_eq_true c34
                   have c34b1 : decide (1 < (rd_L5 l2 t649).length) = true := decide_eq_true (by omega)
                   clear c34
                   obtain ⟨y655, hy655⟩ : ∃ y_ : List Int, y_ = (([rd (rd_L5 l2 t649) 0, wrap64 ((rd (rd_L5 l2 t649) 1) + ((rd_T44 l1 x10_4).f2)), t649, x10_4] : List Int)) := ⟨_, rfl⟩
                   replace H : (if 0 ≤ x9_3 then (if x9_3 < (x8_4.length : Int) then ((spec_l7Less.f k4 y655 (rd_L5 x8_4 x9_3)).bind fun t659 => (if t659 = true then (spec_NextClaims.l2 k4 a0 l1 l2 (x8_4.set (x9_3 : Int).toNat y655) x9_3 (wrap64 (x10_4 + 1))) else (spec_NextClaims.l2 k4 a0 l1 l2 x8_4 x9_3 (wrap64 (x10_4 + 1))))) else (none)) else (none)) = some r := by first | (rw [hy655]; with_reducible exact H) | (have H2_ := (Option.bind_some _ _).symm.trans H; rw [hy655]; with_reducible exact H2_) | (have H2_ := (Option.bind_some _ _).symm.trans H; with_reducible exact H2_) | with_reducible exact H | (rw [hy655]; exact H) | exact H
                   have Ny655 := Aside0.mk hy655
                   clear hy655
                   by_cases c35 : 0 ≤ x9_3
                   ·rw [if_pos c35] at H
                    have c35b0 : decide (0 ≤ x9_3) = true := decide_eq_true c35
                    clear c35
                    by_cases c36 : x9_3 < (x8_4.length : Int)
                    ·rw [if_pos c36] at H
                     have c36b0 : decide (x9_3 < (x8_4.length : Int)) = true := decide_eq_true c36
                     clear c36
                     replace H := Option.bind_eq_some_iff.mp H
                     obtain ⟨t659, A370, H⟩ := H
                     try dsimp only at H
                     have A37 := Aside0.mk A370
                     clear A370
                     by_cases c38 : t659 = true
                     ·subst c38
                      rw [if_pos rfl] at H
                      obtain ⟨y660, hy660⟩ : ∃ y_ : List (List Int), y_ = (x8_4.set (x9_3 : Int).toNat y655) := ⟨_, rfl⟩
                      replace H : (spec_NextClaims.l2 k4 a0 l1 l2 y660 x9_3 (wrap64 (x10_4 + 1))) = some r := by first | (rw [hy660]; with_reducible exact H) | (have H2_ := (Option.bind_some _ _).symm.trans H; rw [hy660]; with_reducible exact H2_) | (have H2_ := (Option.bind_some _ _).symm.trans H; with_reducible exact H2_) | with_reducible exact H | (rw [hy660]; exact H) | exact H
                      have Ny660 := Aside0.mk hy660
                      clear hy660
                      have H' := Aside0.mk H
                      clear H
                      have p648 : 0 ≤ (x10_4 : Int) := od
                      have q648 : x10_4 < (l1.length : Int) := od
                      obtain ⟨ad648, e648, hx648_0, hx648_1, hx648_2⟩ := at_T44 HR1.out x10_4 p648 q648
                      cases e648
                      (try replace hx648_0 := (HB.out.cell (World.block_lt_of_cell? w _ hx648_0)).trans hx648_0)
                      (try replace hx648_1 := (HB.out.cell (World.block_lt_of_cell? w _ hx648_1)).trans hx648_1)
                      (try replace hx648_2 := (HB.out.cell (World.block_lt_of_cell? w _ hx648_2)).trans hx648_2)
                      replace p648 := eq_true p648
                      replace q648 := eq_true q648
                      try go_wp2_with (first | ((with_reducible refine gate_callee (f := 74) rfl ?_); refine goesL_ (some 64) rfl rfl Try.func74 (by kernel_rfl) rfl #[.agg #[.int .i64 ((rd_T44 l1 x10_4).f0), .int .i64 ((rd_T44 l1 x10_4).f1), .int .i64 ((rd_T44 l1 x10_4).f2)], .int .i64 x9_3] rfl (by (try simp only [List.map_toArray, List.map_cons, List.map_nil]); first | done | rfl | (simp only [List.length_drop, List.length_take]; rfl)) ?_; (with_reducible refine (spec_l7Other.calls ((rd_T44 l1 x10_4).f0) ((rd_T44 l1 x10_4).f1) ((rd_T44 l1 x10_4).f2) x9_3 t649 _ A28.out).mono ?_); rintro e w40 ⟨rfl, hb⟩; refine ⟨_, rfl, ?_⟩; have n0_ := Aside0.mk (Kd.S_below (by (with_reducible repeat (first | apply Kd.S_alloc | apply Kd.S_drewN | apply Kd.S_drew)); exact HO_8.out) hb); have n1_ := Aside0.mk (below_step (bw HB.out) hb); clear HO_8; clear HB; have HO_8 := n0_; have HB := n1_; clear n0_ n1_; (try clear hb); (try clear hb2); (try clear hk); (try clear hi)))
                      have n0_ := Aside0.mk (Kd.S_drew HO_8.out)
                      have n1_ := Aside0.mk (below_drew1 HB.out)
                      clear HO_8
                      clear HB
                      have HO_8 := n0_
                      have HB := n1_
                      clear n0_ n1_
                      have p650 : 0 ≤ (t649 : Int) := od
                      have q650 : t649 < (l2.length : Int) := od
                      obtain ⟨ad650, A650_0, c650_0, e650, hx650_0, hl650_0, hi650_0⟩ := at_L5 HR2.out t649 p650 q650
                      have hw650_0 := hx650_0
                      cases e650
                      (try replace hx650_0 := (HB.out.cell (World.block_lt_of_cell? w _ hx650_0)).trans hx650_0)
                      have HR650_0 := Aside0.mk hi650_0
                      have HC650_0 := Aside0.mk hl650_0
                      clear hi650_0 hl650_0
                      replace p650 := eq_true p650
                      replace q650 := eq_true q650
                      have p651 : 0 ≤ (0 : Int) := (by omega)
                      have q651 : 0 < ((rd_L5 l2 t649).length : Int) := od
                      obtain ⟨ad651, e651, hx651_0⟩ := Kd.at_int HR650_0.out 0 p651 q651
                      have hw651_0 := hx651_0
                      (try rw [show ((0 : Int)).toNat = 0 from rfl] at hw651_0)
                      (try rw [show 0 * 1 = 0 from rfl] at hw651_0)
                      (try rw [Addr.add_zero'] at hw651_0)
                      cases e651
                      have qi651 : (0 < (rd_L5 l2 t649).length) = True := eq_true (by omega)
                      (try rw [show ((0 : Int)).toNat = 0 from rfl] at hx651_0)
                      (try rw [Addr.add_zero'] at hx651_0)
                      (try replace hx651_0 := (HB.out.cell (World.block_lt_of_cell? w _ hx651_0)).trans hx651_0)
                      replace p651 := eq_true p651
                      replace q651 := eq_true q651
                      have p652 : 0 ≤ (t649 : Int) := od
                      have q652 : t649 < (l2.length : Int) := od
                      obtain ⟨ad652, A652_0, c652_0, e652, hx652_0, hl652_0, hi652_0⟩ := at_L5 HR2.out t649 p652 q652
                      have hw652_0 := hx652_0
                      obtain rfl : ad650 = ad652 := (by injection e652)
                      (try replace hx652_0 := (HB.out.cell (World.block_lt_of_cell? w _ hx652_0)).trans hx652_0)
                      have HR652_0 := Aside0.mk hi652_0
                      have HC652_0 := Aside0.mk hl652_0
                      clear hi652_0 hl652_0
                      replace p652 := eq_true p652
                      replace q652 := eq_true q652
                      have ea_ := Option.some.inj (hx650_0.symm.trans hx652_0)
                      injection ea_ with ea_ en_ ec_
                      subst ea_
                      subst ec_
                      clear en_
                      have p653 : 0 ≤ (1 : Int) := (by omega)
                      have q653 : 1 < ((rd_L5 l2 t649).length : Int) := od
                      obtain ⟨ad653, e653, hx653_0⟩ := Kd.at_int HR652_0.out 1 p653 q653
                      have hw653_0 := hx653_0
                      (try rw [show ((1 : Int)).toNat = 1 from rfl] at hw653_0)
                      (try rw [show 1 * 1 = 1 from rfl] at hw653_0)
                      (try simp only [Nat.reduceMul, Nat.reduceEqDiff, Go.Addr.add, ↓reduceIte] at hw653_0)
                      cases e653
                      (try simp only [show (1 : Int).toNat = 1 from rfl, Nat.reduceMul, Nat.reduceEqDiff, Go.Addr.add, ↓reduceIte] at hx653_0)
                      have qi653 : (1 < (rd_L5 l2 t649).length) = True := eq_true (by omega)
                      (try rw [show ((1 : Int)).toNat = 1 from rfl] at hx653_0)
                      (try replace hx653_0 := (HB.out.cell (World.block_lt_of_cell? w _ hx653_0)).trans hx653_0)
                      replace p653 := eq_true p653
                      replace q653 := eq_true q653
                      have p654 : 0 ≤ (x10_4 : Int) := od
                      have q654 : x10_4 < (l1.length : Int) := od
                      obtain ⟨ad654, e654, hx654_0, hx654_1, hx654_2⟩ := at_T44 HR1.out x10_4 p654 q654
                      have hw654_2 := hx654_2
                      have hw654_1 := hx654_1
                      have hw654_0 := hx654_0
                      obtain rfl : ad648 = ad654 := (by injection e654)
                      (try replace hx654_0 := (HB.out.cell (World.block_lt_of_cell? w _ hx654_0)).trans hx654_0)
                      (try replace hx654_1 := (HB.out.cell (World.block_lt_of_cell? w _ hx654_1)).trans hx654_1)
                      (try replace hx654_2 := (HB.out.cell (World.block_lt_of_cell? w _ hx654_2)).trans hx654_2)
                      replace p654 := eq_true p654
                      replace q654 := eq_true q654
                      refine start_ (n := 22) (S := fun w' => w'.cell? (ad650.add (t649).toNat) = some (.slice (some ad651) (rd_L5 l2 t649).length c650_0) ∧ w'.cell? ad651 = some (.int .i64 (rd (rd_L5 l2 t649) 0)) ∧ w'.cell? (ad650.add (t649).toNat) = some (.slice (some ad651) (rd_L5 l2 t649).length c650_0) ∧ w'.cell? ⟨ad651.block, ad651.off + 1, none⟩ = some (.int .i64 (rd (rd_L5 l2 t649) 1)) ∧ w'.cell? (ad648.add ((x10_4).toNat * 3)) = some (.int .i64 ((rd_T44 l1 x10_4).f0)) ∧ w'.cell? ⟨(ad648.add ((x10_4).toNat * 3)).block, (ad648.add ((x10_4).toNat * 3)).off + 1, none⟩ = some (.int .i64 ((rd_T44 l1 x10_4).f1)) ∧ w'.cell? ⟨(ad648.add ((x10_4).toNat * 3)).block, (ad648.add ((x10_4).toNat * 3)).off + 2, none⟩ = some (.int .i64 ((rd_T44 l1 x10_4).f2))) (ds := []) (bl 22 0) (by kernel_rfl) rfl (by kernel_rfl) ⟨((HB.out.cell (World.block_lt_of_cell? w _ hw650_0)).trans hw650_0), ((HB.out.cell (World.block_lt_of_cell? w _ hw651_0)).trans hw651_0), ((HB.out.cell (World.block_lt_of_cell? w _ hw652_0)).trans hw652_0), ((HB.out.cell (World.block_lt_of_cell? w _ hw653_0)).trans hw653_0), ((HB.out.cell (World.block_lt_of_cell? w _ hw654_0)).trans hw654_0), ((HB.out.cell (World.block_lt_of_cell? w _ hw654_1)).trans hw654_1), ((HB.out.cell (World.block_lt_of_cell? w _ hw654_2)).trans hw654_2)⟩ (fun hHeld => ?_); refine with_tabW spec_NextClaims.tab17 spec_NextClaims.bits17 (fun HT_ HW_ => ?_)
                      generalize w40.drew = w41 at HO_8 HB HR650_0 HR652_0 hx650_0 hx651_0 hx652_0 hx653_0 hx654_0 hx654_1 hx654_2 hHeld ⊢
                      refine pA 0 (some 67) (bl 22 1) HT_ (h := ?_)
                      refine pA 1 (some 68) (bl 22 3) HT_ (h := ?_)
                      refine pA 2 (some 69) (bl 22 7) HT_ (h := ?_)
                      refine pA 6 (some 73) (bl 22 71) HT_ (h := ?_)
                      refine pA 7 (some 74) (bl 22 199) HT_ (h := ?_)
                      refine pA 8 (some 75) (bl 22 455) HT_ (h := ?_)
                      refine pA 12 (some 79) (bl 22 4551) HT_ (h := ?_)
                      refine pA 13 (some 80) (bl 22 12743) HT_ (h := ?_)
                      refine pA 14 (some 81) (bl 22 29127) HT_ (h := ?_)
                      refine pA 15 (some 82) (bl 22 61895) HT_ (h := ?_)
                      refine pA 18 (some 85) (bl 22 324039) HT_ (h := ?_)
                      refine pA 19 (some 86) (bl 22 848327) HT_ (h := ?_)
                      refine tA 3 (some 70) (bl 22 848335) HT_ HW_ hHeld (h := ?_)
                      refine pA 4 (some 71) (bl 22 848351) HT_ (h := ?_)
                      refine tA 5 (some 72) (bl 22 848383) HT_ HW_ hHeld (h := ?_)
                      refine tA 9 (some 76) (bl 22 848895) HT_ HW_ hHeld (h := ?_)
                      refine pA 10 (some 77) (bl 22 849919) HT_ (h := ?_)
                      refine tA 11 (some 78) (bl 22 851967) HT_ HW_ hHeld (h := ?_)
                      refine tA 16 (some 83) (bl 22 917503) HT_ HW_ hHeld (h := ?_)
                      refine pA 17 (some 84) (bl 22 1048575) HT_ (h := ?_)
                      refine one_ (i := 20) (N := some 87) (bl 22 2097151) rfl rfl (one_of HT_.out (by kernel_rfl)) (by decide) (fun K hK => ?_)
                      refine Kd.R_lit_step (Kd.int .i64) _ 3 ?hg (N := 87) ?hd (xs := ([rd (rd_L5 l2 t649) 0, wrap64 ((rd (rd_L5 l2 t649) 1) + ((rd_T44 l1 x10_4).f2)), t649, x10_4] : List Int)) (inner := [.int .i64 (rd (rd_L5 l2 t649) 0), .int .i64 (wrap64 ((rd (rd_L5 l2 t649) 1) + ((rd_T44 l1 x10_4).f2))), .int .i64 t649, .int .i64 x10_4]) (ok := fun _ => True) (okp := fun _ => True) ?hr ?hp (fun _ hk => hk) trivial (Below.refl _ _) (Nat.le_refl _) (by simp) ?_; (case hd => rfl); (case hg => rfl); (case hr => first | (go_simp; done) | (go_simp; rfl)); (case hp => exact (Reps.one (show Kd.M (Kd.int .i64) _ _ _ (rd (rd_L5 l2 t649) 0) [.int .i64 (rd (rd_L5 l2 t649) 0)] from rfl) (Reps.one (show Kd.M (Kd.int .i64) _ _ _ (wrap64 ((rd (rd_L5 l2 t649) 1) + ((rd_T44 l1 x10_4).f2))) [.int .i64 (wrap64 ((rd (rd_L5 l2 t649) 1) + ((rd_T44 l1 x10_4).f2)))] from rfl) (Reps.one (show Kd.M (Kd.int .i64) _ _ _ t649 [.int .i64 t649] from rfl) (Reps.one (show Kd.M (Kd.int .i64) _ _ _ x10_4 [.int .i64 x10_4] from rfl) (Reps.none _ _))))))
                      intro v656 w42 ho43 hb hg_ hnew_
                      clear hg_ hnew_
                      (first | rw [← Ny655.out] at ho43 | (simp only [Int.reduceToNat] at ho43; rw [← Ny655.out] at ho43))
                      have n0_ := Aside0.mk (Kd.S_elder' (by (with_reducible repeat (first | apply Kd.S_alloc | apply Kd.S_drewN | apply Kd.S_drew)); exact HO_8.out) (Kd.R_base ho43) hb)
                      have n1_ := Aside0.mk (Kd.R_lower ho43 (below_size (bw HB.out)))
                      have n2_ := Aside0.mk (below_step (bw HB.out) hb)
                      clear HO_8
                      clear HB
                      have HO_8 := n0_
                      have HO657 := n1_
                      have HB := n2_
                      clear n0_ n1_ n2_
                      clear hb ho43
                      refine hK.out _ _ ⟨((HB.out.cell (World.block_lt_of_cell? w _ hw650_0)).trans hw650_0), ((HB.out.cell (World.block_lt_of_cell? w _ hw651_0)).trans hw651_0), ((HB.out.cell (World.block_lt_of_cell? w _ hw652_0)).trans hw652_0), ((HB.out.cell (World.block_lt_of_cell? w _ hw653_0)).trans hw653_0), ((HB.out.cell (World.block_lt_of_cell? w _ hw654_0)).trans hw654_0), ((HB.out.cell (World.block_lt_of_cell? w _ hw654_1)).trans hw654_1), ((HB.out.cell (World.block_lt_of_cell? w _ hw654_2)).trans hw654_2)⟩ (fun hHeld => ?_)
                      clear hK K
                      refine norm_ (a' := ?_) ?_ ?_
                      rotate_left
                      ·show Act.put _ (some 87) _ = _
                       simp only [Act.put, List.setIfInBounds_toArray, List.set_cons_zero, List.set_cons_succ, i64_w, i32_w]
                       rfl
                      refine pA 21 (some 12) (bl 22 4194303) HT_ (h := ?_)
                      refine done_ (done_of HT_.out (by kernel_rfl)) ?_
                      obtain ⟨Ao44, co44, eo44⟩ := Kd.S_slice HO_8.out
                      subst eo44
                      have p658 : 0 ≤ (x9_3 : Int) := od
                      have q658 : x9_3 < (x8_4.length : Int) := od
                      obtain ⟨ad658, A658_0, c658_0, e658, hx658_0, hl658_0, hi658_0⟩ := at_L5 (Kd.S_reads' HO_8.out).2.2 x9_3 p658 q658
                      cases e658
                      obtain ⟨ce658, hce658, hMe658, hcc658⟩ := Kd.S_get HO_8.out [] x9_3 p658 (by first | exact q658 | exact od | (have e_ := (Kd.S_reads' HO_8.out).1; omega))
                      obtain ⟨ve658_0, rfl, ge658_0⟩ := hMe658
                      have hv658_0 := hcc658 0 _ rfl
                      rw [Nat.add_zero, show ((Kd.slice 3 (Kd.int .i64))).sz = 1 from rfl, Nat.mul_one] at hv658_0
                      replace hv658_0 := Option.some.inj (hv658_0.symm.trans hx658_0)
                      rw [hv658_0] at ge658_0
                      have HL658_0 := Aside0.mk (show Kd.R (Kd.int .i64) 3 _ _ _ _ (rd_L5 x8_4 x9_3) from ge658_0)
                      clear hv658_0 ge658_0
                      clear hcc658 hce658
                      have HR658_0 := Aside0.mk hi658_0
                      have HC658_0 := Aside0.mk hl658_0
                      clear hi658_0 hl658_0
                      replace p658 := eq_true p658
                      replace q658 := eq_true q658
                      obtain ⟨Ao45, co45, eo45⟩ := Kd.R_slice HO657.out
                      subst eo45
                      try go_wp2_with (first | ((with_reducible refine gate_callee (f := 85) rfl ?_); refine goesL_ (some 93) rfl rfl Try.func85 (by kernel_rfl) rfl #[.slice Ao45 y655.length co45, .slice A658_0 (rd_L5 x8_4 x9_3).length c658_0] rfl (by (try simp only [List.map_toArray, List.map_cons, List.map_nil]); first | done | rfl | (simp only [List.length_drop, List.length_take]; rfl)) ?_; (with_reducible refine (spec_l7Less.calls k4 _ _ y655 _ _ (rd_L5 x8_4 x9_3) true _ ?side1 ?side2 ?side3 ?side4 A37.out).mono ?_); (case side1 => repeat (first | exact (Kd.R_reads' HO657.out).2.2 | (with_reducible refine Kd.C_alloc ?_ _) | (with_reducible refine Kd.C_drewN ?_ _) | (with_reducible refine Kd.C_drew ?_))); (case side2 => exact (Kd.R_reads' HO657.out).2.1); (case side3 => repeat (first | exact (by repeat (first | (with_reducible exact HR658_0.out) | (with_reducible refine Kd.C_alloc ?_ _) | (with_reducible refine Kd.C_drewN ?_ _) | (with_reducible refine Kd.C_drew ?_) | exact HR658_0.out)) | (with_reducible refine Kd.C_alloc ?_ _) | (with_reducible refine Kd.C_drewN ?_ _) | (with_reducible refine Kd.C_drew ?_))); (case side4 => exact HC658_0.out); rintro e w' ⟨rfl, ⟨nd, rfl⟩⟩; refine ⟨_, rfl, ?_⟩; (try (rw [drewN_self w42]; generalize hq_ : World.drewN w42 _ = w42; have n0_ : Aside0 (Kd.R (Kd.int .i64) 3 w42 w.heap.size (fun k_ => some k_ ≠ (.slice Ao45 y655.length co45 : Value).ownBlock ∧ some k_ ≠ (.slice (some ad658) x8_4.length co44 : Value).ownBlock) (.slice A658_0 (rd_L5 x8_4 x9_3).length c658_0) (rd_L5 x8_4 x9_3)) := ⟨by rw [← hq_]; exact (by (with_reducible repeat (first | apply Kd.R_alloc | apply Kd.R_drewN | apply Kd.R_drew)); exact Kd.R_mono HL658_0.out (fun _ hk => by first | exact ⟨hk.1.2, hk.2⟩ | exact hk))⟩; have n1_ : Aside0 (Kd.R (Kd.int .i64) 3 w42 w.heap.size (fun _ => True) (.slice Ao45 y655.length co45) y655) := ⟨by rw [← hq_]; exact (ru HO657.out)⟩; have n2_ : Aside0 (Kd.S (Kd.slice 3 (Kd.int .i64)) 24 w42 w.heap.size (fun k_ => some k_ ≠ (.slice Ao45 y655.length co45 : Value).ownBlock) (.slice (some ad658) x8_4.length co44) x8_4) := ⟨by rw [← hq_]; exact (by (with_reducible repeat (first | apply Kd.S_alloc | apply Kd.S_drewN | apply Kd.S_drew)); exact Kd.S_mono HO_8.out (fun _ hk => hk.2))⟩; have n3_ : Aside0 (Below w.heap.size w w42) := ⟨by rw [← hq_]; exact (bw HB.out)⟩; have n4_ : Aside0 (Kd.C (Kd.int .i64) w42 A658_0 (rd_L5 x8_4 x9_3).length (rd_L5 x8_4 x9_3)) := ⟨by rw [← hq_]; exact (by repeat (first | (with_reducible exact HR658_0.out) | (with_reducible refine Kd.C_alloc ?_ _) | (with_reducible refine Kd.C_drewN ?_ _) | (with_reducible refine Kd.C_drew ?_) | exact HR658_0.out))⟩; clear HL658_0 HO657 HO_8 HB HR658_0 hq_; have HL658_0 := n0_; have HO657 := n1_; have HO_8 := n2_; have HB := n3_; have HR658_0 := n4_; clear n0_ n1_ n2_ n3_ n4_)); have p39 : 0 ≤ (x9_3 : Int) := od; have q39 : (x9_3 : Int) < ((x8_4.length : Int) : Int) := od; obtain ⟨go39, co39, eo39, gb39, gl39, cl39, HG39⟩ := Kd.S_form HO_8.out (by omega); (first | cases eo39 | (injection eo39 with ea_ en_ ec_; (first | subst ea_ | (injection ea_ with ea_; subst ea_)); subst ec_; clear en_)); have GB39 := Aside0.mk gb39; have GG39 := Aside0.mk HG39; clear gb39 gl39 HG39; (first | simp only [add_plain] at hx658_0 | skip); obtain ⟨_, ce39, hcl39, hM39, hcc39, hfr39, _, _⟩ := Kd.S_elem HO_8.out [] (x9_3 : Int) p39 q39; obtain ⟨ve39_0, rfl, ge39_0⟩ := hM39; have hx39_0 := hcc39 0 _ rfl; have hf39_0 := hfr39 0; (try simp only [show ((Kd.slice 3 (Kd.int .i64))).sz = 1 from rfl, Nat.mul_one, Nat.add_zero] at hx39_0); (try simp only [show ((Kd.slice 3 (Kd.int .i64))).sz = 1 from rfl, Nat.mul_one, Nat.add_zero] at hf39_0); (try clear hM39); clear hcl39 hcc39 hfr39; replace p39 := eq_true p39; replace q39 := eq_true q39; have n_ := Aside0.mk (Kd.S_mono (ok' := (fun k_ => some k_ ≠ (.slice Ao45 y655.length co45 : Value).ownBlock)) HO_8.out (fun k_ hk => by first | exact hk.2 | exact hk)); clear HO_8; have HO_8 := n_; clear n_; have HX46 := Aside0.mk (show Kd.S (Kd.slice 3 (Kd.int .i64)) 24 w42 w.heap.size (fun k_ => ((fun _ => True)) k_ ∧ ¬ ((fun k_ => some k_ = (.slice Ao45 y655.length co45 : Value).ownBlock)) k_) (.slice (some ⟨go39, 0, none⟩) x8_4.length co44) x8_4 from (by (with_reducible repeat (first | apply Kd.S_alloc | apply Kd.S_drewN | apply Kd.S_drew)); exact Kd.S_mono HO_8.out (fun k_ hk => ⟨trivial, fun e_ => hk e_⟩))); obtain ⟨oki46, ce46, hcl46, hM46, hcc46, hfr46, hoki46, hH46⟩ := Kd.S_elem HX46.out [] (x9_3 : Int) od (by have h_ : (x9_3 : Int) < ((x8_4.length : Int) : Int) := od; first | exact h_ | (have e_ := (Kd.S_reads' HO_8.out).1; omega) | simpa using h_); obtain ⟨ve46_0, rfl, ge46_0⟩ := hM46; have HP46 := Kd.S_seg hH46 od (by have h_ : (x9_3 : Int) < ((x8_4.length : Int) : Int) := od; first | exact h_ | (have e_ := (Kd.S_reads' HO_8.out).1; omega) | simpa using h_) (seg := [.slice Ao45 y655.length co45]) (j := 0) (show 1 ≤ 1 from by decide) (x' := y655) (Kd.M_row (Kd.R_mono (Kd.R_tight rfl (Kd.R_mono (ok' := fun k_ => ((fun _ => True)) k_ ∧ k_ ≠ go39) (Kd.R_apart' (HO657.out) (Kd.S_typed HO_8.out) (by decide)) (fun k_ hk => ⟨trivial, fun e_ => (hk.2) (by rw [e_]; rfl)⟩))) (fun _ h_ => Or.inr (h_)))) (fun _ hk => hk) (fun k_ hk_ => ((Kd.R_mono (ok' := fun k_ => ((fun _ => True)) k_ ∧ k_ ≠ go39) (Kd.R_apart' (HO657.out) (Kd.S_typed HO_8.out) (by decide)) (fun k_ hk => ⟨trivial, fun e_ => (hk.2) (by rw [e_]; rfl)⟩))).1 k_ hk_.symm); have hx46_0 := hcc46 0 _ rfl; (try simp only [show ((Kd.slice 3 (Kd.int .i64))).sz = 1 from rfl, Nat.mul_one, Nat.add_zero] at hx46_0); have hf46_0 := hfr46 0; (try simp only [show ((Kd.slice 3 (Kd.int .i64))).sz = 1 from rfl, Nat.mul_one, Nat.add_zero] at hf46_0); (try clear hM46); clear hcl46 hcc46 hfr46 hoki46 hH46; (try simp only [show ((Kd.slice 3 (Kd.int .i64))).sz = 1 from rfl, Nat.mul_one, Nat.add_zero] at HP46)) | ((with_reducible refine gate_store (t := 24) (p := 97) rfl ?_); refine store_event (t := 24) (p := 97) (v := ?vo_w47) (w1 := (w42.setCell ⟨go39, (x9_3 : Int).toNat, none⟩ (.slice Ao45 y655.length co45))) ?hg ?ho ?hn ?hr ?_; (case ho => rfl); (case hg => rfl); (case hn => rfl); (case hr => first | (go_simp; done) | (go_simp; rfl)); intro w47 hw; have hg : w42.grownBy w47 (some go39) := (by rw [hw]; exact HP46.2); have hp_ : Kd.S (Kd.slice 3 (Kd.int .i64)) 24 w47 w.heap.size (fun _ => True) (.slice (some ⟨go39, 0, none⟩) x8_4.length co44) y660 := (by rw [hw, Ny660.out]; exact HP46.1); clear HP46; have n0_ := Aside0.mk (hp_); have n1_ := Aside0.mk (Kd.R_after (v := (.slice (some ⟨go39, 0, none⟩) x8_4.length co44)) (v1 := (.slice (some ⟨go39, 0, none⟩) x8_4.length co44)) (ok := (fun k_ => some k_ ≠ (.slice Ao45 y655.length co45 : Value).ownBlock)) (by (with_reducible repeat (first | apply Kd.R_alloc | apply Kd.R_drewN | apply Kd.R_drew)); exact Kd.R_mono HL658_0.out (fun _ hk => by first | exact ⟨hk.1.2, hk.2⟩ | exact hk)) hg (.inl rfl)); have n2_ := Aside0.mk ((by rw [hw]; exact below_set (HB.out) GB39.out : Below w.heap.size w w47)); clear HO_8; clear HL658_0; clear HB; clear HO657; have HO_8 := n0_; have HL658_0 := n1_; have HB := n2_; clear n0_ n1_ n2_; clear hg hw hp_))
                      go_roundg k4
                      case measure => have := HJ3.out; have := HK2.out; have := HK3.out; have := HK4.out; omega
                      case rel => exact ⟨(y660), (wrap64 (x10_4 + 1)), fs, H', ⟨by have := HJ3.out; have := HK2.out; have := HK3.out; have := HK4.out; omega⟩, ⟨by (with_reducible repeat (first | apply Kd.S_alloc | apply Kd.S_drewN | apply Kd.S_drew)); exact HO_8.out⟩, ⟨bw HB.out⟩⟩
                     ·replace c38 := Bool.eq_false_iff.mpr c38
                      subst c38
                      rw [if_neg (show ¬ (false = true) by decide)] at H
                      have H' := Aside0.mk H
                      clear H
                      have p648 : 0 ≤ (x10_4 : Int) := od
                      have q648 : x10_4 < (l1.length : Int) := od
                      obtain ⟨ad648, e648, hx648_0, hx648_1, hx648_2⟩ := at_T44 HR1.out x10_4 p648 q648
                      cases e648
                      (try replace hx648_0 := (HB.out.cell (World.block_lt_of_cell? w _ hx648_0)).trans hx648_0)
                      (try replace hx648_1 := (HB.out.cell (World.block_lt_of_cell? w _ hx648_1)).trans hx648_1)
                      (try replace hx648_2 := (HB.out.cell (World.block_lt_of_cell? w _ hx648_2)).trans hx648_2)
                      replace p648 := eq_true p648
                      replace q648 := eq_true q648
                      try go_wp2_with (first | ((with_reducible refine gate_callee (f := 74) rfl ?_); refine goesL_ (some 64) rfl rfl Try.func74 (by kernel_rfl) rfl #[.agg #[.int .i64 ((rd_T44 l1 x10_4).f0), .int .i64 ((rd_T44 l1 x10_4).f1), .int .i64 ((rd_T44 l1 x10_4).f2)], .int .i64 x9_3] rfl (by (try simp only [List.map_toArray, List.map_cons, List.map_nil]); first | done | rfl | (simp only [List.length_drop, List.length_take]; rfl)) ?_; (with_reducible refine (spec_l7Other.calls ((rd_T44 l1 x10_4).f0) ((rd_T44 l1 x10_4).f1) ((rd_T44 l1 x10_4).f2) x9_3 t649 _ A28.out).mono ?_); rintro e w48 ⟨rfl, hb⟩; refine ⟨_, rfl, ?_⟩; have n0_ := Aside0.mk (Kd.S_below (by (with_reducible repeat (first | apply Kd.S_alloc | apply Kd.S_drewN | apply Kd.S_drew)); exact HO_8.out) hb); have n1_ := Aside0.mk (below_step (bw HB.out) hb); clear HO_8; clear HB; have HO_8 := n0_; have HB := n1_; clear n0_ n1_; (try clear hb); (try clear hb2); (try clear hk); (try clear hi)))
                      have n0_ := Aside0.mk (Kd.S_drew HO_8.out)
                      have n1_ := Aside0.mk (below_drew1 HB.out)
                      clear HO_8
                      clear HB
                      have HO_8 := n0_
                      have HB := n1_
                      clear n0_ n1_
                      have p650 : 0 ≤ (t649 : Int) := od
                      have q650 : t649 < (l2.length : Int) := od
                      obtain ⟨ad650, A650_0, c650_0, e650, hx650_0, hl650_0, hi650_0⟩ := at_L5 HR2.out t649 p650 q650
                      have hw650_0 := hx650_0
                      cases e650
                      (try replace hx650_0 := (HB.out.cell (World.block_lt_of_cell? w _ hx650_0)).trans hx650_0)
                      have HR650_0 := Aside0.mk hi650_0
                      have HC650_0 := Aside0.mk hl650_0
                      clear hi650_0 hl650_0
                      replace p650 := eq_true p650
                      replace q650 := eq_true q650
                      have p651 : 0 ≤ (0 : Int) := (by omega)
                      have q651 : 0 < ((rd_L5 l2 t649).length : Int) := od
                      obtain ⟨ad651, e651, hx651_0⟩ := Kd.at_int HR650_0.out 0 p651 q651
                      have hw651_0 := hx651_0
                      (try rw [show ((0 : Int)).toNat = 0 from rfl] at hw651_0)
                      (try rw [show 0 * 1 = 0 from rfl] at hw651_0)
                      (try rw [Addr.add_zero'] at hw651_0)
                      cases e651
                      have qi651 : (0 < (rd_L5 l2 t649).length) = True := eq_true (by omega)
                      (try rw [show ((0 : Int)).toNat = 0 from rfl] at hx651_0)
                      (try rw [Addr.add_zero'] at hx651_0)
                      (try replace hx651_0 := (HB.out.cell (World.block_lt_of_cell? w _ hx651_0)).trans hx651_0)
                      replace p651 := eq_true p651
                      replace q651 := eq_true q651
                      have p652 : 0 ≤ (t649 : Int) := od
                      have q652 : t649 < (l2.length : Int) := od
                      obtain ⟨ad652, A652_0, c652_0, e652, hx652_0, hl652_0, hi652_0⟩ := at_L5 HR2.out t649 p652 q652
                      have hw652_0 := hx652_0
                      obtain rfl : ad650 = ad652 := (by injection e652)
                      (try replace hx652_0 := (HB.out.cell (World.block_lt_of_cell? w _ hx652_0)).trans hx652_0)
                      have HR652_0 := Aside0.mk hi652_0
                      have HC652_0 := Aside0.mk hl652_0
                      clear hi652_0 hl652_0
                      replace p652 := eq_true p652
                      replace q652 := eq_true q652
                      have ea_ := Option.some.inj (hx650_0.symm.trans hx652_0)
                      injection ea_ with ea_ en_ ec_
                      subst ea_
                      subst ec_
                      clear en_
                      have p653 : 0 ≤ (1 : Int) := (by omega)
                      have q653 : 1 < ((rd_L5 l2 t649).length : Int) := od
                      obtain ⟨ad653, e653, hx653_0⟩ := Kd.at_int HR652_0.out 1 p653 q653
                      have hw653_0 := hx653_0
                      (try rw [show ((1 : Int)).toNat = 1 from rfl] at hw653_0)
                      (try rw [show 1 * 1 = 1 from rfl] at hw653_0)
                      (try simp only [Nat.reduceMul, Nat.reduceEqDiff, Go.Addr.add, ↓reduceIte] at hw653_0)
                      cases e653
                      (try simp only [show (1 : Int).toNat = 1 from rfl, Nat.reduceMul, Nat.reduceEqDiff, Go.Addr.add, ↓reduceIte] at hx653_0)
                      have qi653 : (1 < (rd_L5 l2 t649).length) = True := eq_true (by omega)
                      (try rw [show ((1 : Int)).toNat = 1 from rfl] at hx653_0)
                      (try replace hx653_0 := (HB.out.cell (World.block_lt_of_cell? w _ hx653_0)).trans hx653_0)
                      replace p653 := eq_true p653
                      replace q653 := eq_true q653
                      have p654 : 0 ≤ (x10_4 : Int) := od
                      have q654 : x10_4 < (l1.length : Int) := od
                      obtain ⟨ad654, e654, hx654_0, hx654_1, hx654_2⟩ := at_T44 HR1.out x10_4 p654 q654
                      have hw654_2 := hx654_2
                      have hw654_1 := hx654_1
                      have hw654_0 := hx654_0
                      obtain rfl : ad648 = ad654 := (by injection e654)
                      (try replace hx654_0 := (HB.out.cell (World.block_lt_of_cell? w _ hx654_0)).trans hx654_0)
                      (try replace hx654_1 := (HB.out.cell (World.block_lt_of_cell? w _ hx654_1)).trans hx654_1)
                      (try replace hx654_2 := (HB.out.cell (World.block_lt_of_cell? w _ hx654_2)).trans hx654_2)
                      replace p654 := eq_true p654
                      replace q654 := eq_true q654
                      refine start_ (n := 22) (S := fun w' => w'.cell? (ad650.add (t649).toNat) = some (.slice (some ad651) (rd_L5 l2 t649).length c650_0) ∧ w'.cell? ad651 = some (.int .i64 (rd (rd_L5 l2 t649) 0)) ∧ w'.cell? (ad650.add (t649).toNat) = some (.slice (some ad651) (rd_L5 l2 t649).length c650_0) ∧ w'.cell? ⟨ad651.block, ad651.off + 1, none⟩ = some (.int .i64 (rd (rd_L5 l2 t649) 1)) ∧ w'.cell? (ad648.add ((x10_4).toNat * 3)) = some (.int .i64 ((rd_T44 l1 x10_4).f0)) ∧ w'.cell? ⟨(ad648.add ((x10_4).toNat * 3)).block, (ad648.add ((x10_4).toNat * 3)).off + 1, none⟩ = some (.int .i64 ((rd_T44 l1 x10_4).f1)) ∧ w'.cell? ⟨(ad648.add ((x10_4).toNat * 3)).block, (ad648.add ((x10_4).toNat * 3)).off + 2, none⟩ = some (.int .i64 ((rd_T44 l1 x10_4).f2))) (ds := []) (bl 22 0) (by kernel_rfl) rfl (by kernel_rfl) ⟨((HB.out.cell (World.block_lt_of_cell? w _ hw650_0)).trans hw650_0), ((HB.out.cell (World.block_lt_of_cell? w _ hw651_0)).trans hw651_0), ((HB.out.cell (World.block_lt_of_cell? w _ hw652_0)).trans hw652_0), ((HB.out.cell (World.block_lt_of_cell? w _ hw653_0)).trans hw653_0), ((HB.out.cell (World.block_lt_of_cell? w _ hw654_0)).trans hw654_0), ((HB.out.cell (World.block_lt_of_cell? w _ hw654_1)).trans hw654_1), ((HB.out.cell (World.block_lt_of_cell? w _ hw654_2)).trans hw654_2)⟩ (fun hHeld => ?_); refine with_tabW spec_NextClaims.tab17 spec_NextClaims.bits17 (fun HT_ HW_ => ?_)
                      generalize w48.drew = w49 at HO_8 HB HR650_0 HR652_0 hx650_0 hx651_0 hx652_0 hx653_0 hx654_0 hx654_1 hx654_2 hHeld ⊢
                      refine pA 0 (some 67) (bl 22 1) HT_ (h := ?_)
                      refine pA 1 (some 68) (bl 22 3) HT_ (h := ?_)
                      refine pA 2 (some 69) (bl 22 7) HT_ (h := ?_)
                      refine pA 6 (some 73) (bl 22 71) HT_ (h := ?_)
                      refine pA 7 (some 74) (bl 22 199) HT_ (h := ?_)
                      refine pA 8 (some 75) (bl 22 455) HT_ (h := ?_)
                      refine pA 12 (some 79) (bl 22 4551) HT_ (h := ?_)
                      refine pA 13 (some 80) (bl 22 12743) HT_ (h := ?_)
                      refine pA 14 (some 81) (bl 22 29127) HT_ (h := ?_)
                      refine pA 15 (some 82) (bl 22 61895) HT_ (h := ?_)
                      refine pA 18 (some 85) (bl 22 324039) HT_ (h := ?_)
                      refine pA 19 (some 86) (bl 22 848327) HT_ (h := ?_)
                      refine tA 3 (some 70) (bl 22 848335) HT_ HW_ hHeld (h := ?_)
                      refine pA 4 (some 71) (bl 22 848351) HT_ (h := ?_)
                      refine tA 5 (some 72) (bl 22 848383) HT_ HW_ hHeld (h := ?_)
                      refine tA 9 (some 76) (bl 22 848895) HT_ HW_ hHeld (h := ?_)
                      refine pA 10 (some 77) (bl 22 849919) HT_ (h := ?_)
                      refine tA 11 (some 78) (bl 22 851967) HT_ HW_ hHeld (h := ?_)
                      refine tA 16 (some 83) (bl 22 917503) HT_ HW_ hHeld (h := ?_)
                      refine pA 17 (some 84) (bl 22 1048575) HT_ (h := ?_)
                      refine one_ (i := 20) (N := some 87) (bl 22 2097151) rfl rfl (one_of HT_.out (by kernel_rfl)) (by decide) (fun K hK => ?_)
                      refine Kd.R_lit_step (Kd.int .i64) _ 3 ?hg (N := 87) ?hd (xs := ([rd (rd_L5 l2 t649) 0, wrap64 ((rd (rd_L5 l2 t649) 1) + ((rd_T44 l1 x10_4).f2)), t649, x10_4] : List Int)) (inner := [.int .i64 (rd (rd_L5 l2 t649) 0), .int .i64 (wrap64 ((rd (rd_L5 l2 t649) 1) + ((rd_T44 l1 x10_4).f2))), .int .i64 t649, .int .i64 x10_4]) (ok := fun _ => True) (okp := fun _ => True) ?hr ?hp (fun _ hk => hk) trivial (Below.refl _ _) (Nat.le_refl _) (by simp) ?_; (case hd => rfl); (case hg => rfl); (case hr => first | (go_simp; done) | (go_simp; rfl)); (case hp => exact (Reps.one (show Kd.M (Kd.int .i64) _ _ _ (rd (rd_L5 l2 t649) 0) [.int .i64 (rd (rd_L5 l2 t649) 0)] from rfl) (Reps.one (show Kd.M (Kd.int .i64) _ _ _ (wrap64 ((rd (rd_L5 l2 t649) 1) + ((rd_T44 l1 x10_4).f2))) [.int .i64 (wrap64 ((rd (rd_L5 l2 t649) 1) + ((rd_T44 l1 x10_4).f2)))] from rfl) (Reps.one (show Kd.M (Kd.int .i64) _ _ _ t649 [.int .i64 t649] from rfl) (Reps.one (show Kd.M (Kd.int .i64) _ _ _ x10_4 [.int .i64 x10_4] from rfl) (Reps.none _ _))))))
                      intro v656 w50 ho51 hb hg_ hnew_
                      clear hg_ hnew_
                      (first | rw [← Ny655.out] at ho51 | (simp only [Int.reduceToNat] at ho51; rw [← Ny655.out] at ho51))
                      have n0_ := Aside0.mk (Kd.S_elder' (by (with_reducible repeat (first | apply Kd.S_alloc | apply Kd.S_drewN | apply Kd.S_drew)); exact HO_8.out) (Kd.R_base ho51) hb)
                      have n1_ := Aside0.mk (Kd.R_lower ho51 (below_size (bw HB.out)))
                      have n2_ := Aside0.mk (below_step (bw HB.out) hb)
                      clear HO_8
                      clear HB
                      have HO_8 := n0_
                      have HO657 := n1_
                      have HB := n2_
                      clear n0_ n1_ n2_
                      clear hb ho51
                      refine hK.out _ _ ⟨((HB.out.cell (World.block_lt_of_cell? w _ hw650_0)).trans hw650_0), ((HB.out.cell (World.block_lt_of_cell? w _ hw651_0)).trans hw651_0), ((HB.out.cell (World.block_lt_of_cell? w _ hw652_0)).trans hw652_0), ((HB.out.cell (World.block_lt_of_cell? w _ hw653_0)).trans hw653_0), ((HB.out.cell (World.block_lt_of_cell? w _ hw654_0)).trans hw654_0), ((HB.out.cell (World.block_lt_of_cell? w _ hw654_1)).trans hw654_1), ((HB.out.cell (World.block_lt_of_cell? w _ hw654_2)).trans hw654_2)⟩ (fun hHeld => ?_)
                      clear hK K
                      refine norm_ (a' := ?_) ?_ ?_
                      rotate_left
                      ·show Act.put _ (some 87) _ = _
                       simp only [Act.put, List.setIfInBounds_toArray, List.set_cons_zero, List.set_cons_succ, i64_w, i32_w]
                       rfl
                      refine pA 21 (some 12) (bl 22 4194303) HT_ (h := ?_)
                      refine done_ (done_of HT_.out (by kernel_rfl)) ?_
                      obtain ⟨Ao52, co52, eo52⟩ := Kd.S_slice HO_8.out
                      subst eo52
                      have p658 : 0 ≤ (x9_3 : Int) := od
                      have q658 : x9_3 < (x8_4.length : Int) := od
                      obtain ⟨ad658, A658_0, c658_0, e658, hx658_0, hl658_0, hi658_0⟩ := at_L5 (Kd.S_reads' HO_8.out).2.2 x9_3 p658 q658
                      cases e658
                      obtain ⟨ce658, hce658, hMe658, hcc658⟩ := Kd.S_get HO_8.out [] x9_3 p658 (by first | exact q658 | exact od | (have e_ := (Kd.S_reads' HO_8.out).1; omega))
                      obtain ⟨ve658_0, rfl, ge658_0⟩ := hMe658
                      have hv658_0 := hcc658 0 _ rfl
                      rw [Nat.add_zero, show ((Kd.slice 3 (Kd.int .i64))).sz = 1 from rfl, Nat.mul_one] at hv658_0
                      replace hv658_0 := Option.some.inj (hv658_0.symm.trans hx658_0)
                      rw [hv658_0] at ge658_0
                      have HL658_0 := Aside0.mk (show Kd.R (Kd.int .i64) 3 _ _ _ _ (rd_L5 x8_4 x9_3) from ge658_0)
                      clear hv658_0 ge658_0
                      clear hcc658 hce658
                      have HR658_0 := Aside0.mk hi658_0
                      have HC658_0 := Aside0.mk hl658_0
                      clear hi658_0 hl658_0
                      replace p658 := eq_true p658
                      replace q658 := eq_true q658
                      obtain ⟨Ao53, co53, eo53⟩ := Kd.R_slice HO657.out
                      subst eo53
                      try go_wp2_with (first | ((with_reducible refine gate_callee (f := 85) rfl ?_); refine goesL_ (some 93) rfl rfl Try.func85 (by kernel_rfl) rfl #[.slice Ao53 y655.length co53, .slice A658_0 (rd_L5 x8_4 x9_3).length c658_0] rfl (by (try simp only [List.map_toArray, List.map_cons, List.map_nil]); first | done | rfl | (simp only [List.length_drop, List.length_take]; rfl)) ?_; (with_reducible refine (spec_l7Less.calls k4 _ _ y655 _ _ (rd_L5 x8_4 x9_3) false _ ?side1 ?side2 ?side3 ?side4 A37.out).mono ?_); (case side1 => repeat (first | exact (Kd.R_reads' HO657.out).2.2 | (with_reducible refine Kd.C_alloc ?_ _) | (with_reducible refine Kd.C_drewN ?_ _) | (with_reducible refine Kd.C_drew ?_))); (case side2 => exact (Kd.R_reads' HO657.out).2.1); (case side3 => repeat (first | exact (by repeat (first | (with_reducible exact HR658_0.out) | (with_reducible refine Kd.C_alloc ?_ _) | (with_reducible refine Kd.C_drewN ?_ _) | (with_reducible refine Kd.C_drew ?_) | exact HR658_0.out)) | (with_reducible refine Kd.C_alloc ?_ _) | (with_reducible refine Kd.C_drewN ?_ _) | (with_reducible refine Kd.C_drew ?_))); (case side4 => exact HC658_0.out); rintro e w' ⟨rfl, ⟨nd, rfl⟩⟩; refine ⟨_, rfl, ?_⟩))
                      go_roundg k4
                      case measure => have := HJ3.out; have := HK2.out; have := HK3.out; have := HK4.out; omega
                      case rel => exact ⟨(x8_4), (wrap64 (x10_4 + 1)), fs, H', ⟨by have := HJ3.out; have := HK2.out; have := HK3.out; have := HK4.out; omega⟩, ⟨by (with_reducible repeat (first | apply Kd.S_alloc | apply Kd.S_drewN | apply Kd.S_drew)); exact Kd.S_mono HO_8.out (fun _ hk => trivial)⟩, ⟨bw HB.out⟩⟩
                    ·rw [if_neg c36] at H
                     exact absurd H (by simp)
                   ·rw [if_neg c35] at H
                    exact absurd H (by simp)
                  ·rw [if_neg c34] at H
                   exact absurd H (by simp)
                 ·rw [if_neg c33] at H
                  exact absurd H (by simp)
                ·rw [if_neg c32] at H
                 exact absurd H (by simp)
               ·rw [if_neg c31] at H
                exact absurd H (by simp)
             ·rw [if_neg c27] at H
              exact absurd H (by simp)
            ·rw [if_neg c26] at H
             have c26b0 : decide (x10_4 < (l1.length : Int)) = false := decide_eq_false c26
             clear c26
             have H' := Aside0.mk H
             clear H
             go_wp2
             go_roundg k4
             case measure => have := HJ3.out; have := HK2.out; have := HK3.out; have := HK4.out; omega
             case rel => exact ⟨(x8_4), (wrap64 (x9_3 + 1)), fs, H', ⟨by have := HJ3.out; have := HK2.out; have := HK3.out; have := HK4.out; omega⟩, ⟨by (with_reducible repeat (first | apply Kd.S_alloc | apply Kd.S_drewN | apply Kd.S_drew)); exact HO_8.out⟩, ⟨bw HB.out⟩⟩
         ·rw [if_neg c25] at H
          have c25b0 : decide (x9_3 < a0) = false := decide_eq_false c25
          clear c25
          obtain rfl := Option.some.inj H
          go_wp2
          go_ret
          exact ⟨_, fe, by (with_reducible repeat (first | apply Kd.S_alloc | apply Kd.S_drewN | apply Kd.S_drew)); exact HO_8.out, bw HB.out⟩

end Go.Proofs.Ytegnghbgkiddoaa.PA
