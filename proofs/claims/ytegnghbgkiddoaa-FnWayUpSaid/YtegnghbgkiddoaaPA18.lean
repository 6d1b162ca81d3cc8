-- Laid by this session's own program (pr.py) over the translation; Lean checks it.
import Derived.Test.YtegnghbgkiddoaaPA0
import Derived.Test.YtegnghbgkiddoaaPA4
import Derived.Test.YtegnghbgkiddoaaHSq
namespace Go.Proofs.Ytegnghbgkiddoaa.PA
open Go.RowKit Go.Proofs.YtegnghbgkiddoaaW.PrintWords Go.Proofs.YtegnghbgkiddoaaW.PrintLast Go.Proofs.YtegnghbgkiddoaaW.PrintMore
attribute [local go_sem] max2_int min2_int max_two min_two max_three min_three max_four min_four   -- for this text's walks alone
set_option linter.unusedVariables false
set_option linter.unusedSimpArgs false

/-! ### spec_l7Up: function 64 -/
-- IMPORT HSq
mutual
def spec_l7Up.l0 : Nat → List (S44) → List Int → Int → Int → Int → Option (Int)
 | 0, _, _, _, _, _ => none
 | k + 1, x0, x1, x2, x7, x8 => if x8 < (x0.length : Int) then (if 0 ≤ x8 then ((spec_l7Other.f ((rd_T44 x0 x8).f0) ((rd_T44 x0 x8).f1) ((rd_T44 x0 x8).f2) x2).bind fun t148 => (if t148 < 0 then (spec_l7Up.j1 k x0 x1 x2 x7 x8 t148 true) else (if 0 ≤ t148 then (if t148 < (x1.length : Int) then (if 0 ≤ x2 then (if x2 < (x1.length : Int) then (spec_l7Up.j1 k x0 x1 x2 x7 x8 t148 ((wrap64 ((rd x1 t148) + ((rd_T44 x0 x8).f2))) != (rd x1 x2))) else (none)) else (none)) else (none)) else (none)))) else (none)) else (some x7)
def spec_l7Up.j1 : Nat → List (S44) → List Int → Int → Int → Int → Int → Bool → Option (Int)
 | 0, _, _, _, _, _, _, _ => none
 | k + 1, x0, x1, x2, x7, x8, x9, x46 => if x46 = true then (spec_l7Up.l0 k x0 x1 x2 x7 (wrap64 (x8 + 1))) else (if x7 < 0 then (spec_l7Up.l0 k x0 x1 x2 x8 (wrap64 (x8 + 1))) else (if 0 ≤ x7 then (if x7 < (x0.length : Int) then ((spec_l7Other.f ((rd_T44 x0 x7).f0) ((rd_T44 x0 x7).f1) ((rd_T44 x0 x7).f2) x2).bind fun t153 => (if x9 < t153 then (spec_l7Up.l0 k x0 x1 x2 x8 (wrap64 (x8 + 1))) else (spec_l7Up.l0 k x0 x1 x2 x7 (wrap64 (x8 + 1))))) else (none)) else (none)))
end
def spec_l7Up.f (k : Nat) (l0 : List (S44)) (l1 : List Int) (a2 : Int) : Option (Int) := if 0 ≤ a2 then (if a2 < (l1.length : Int) then (if (rd l1 a2) = 0 then (some (-1)) else (spec_l7Up.l0 k l0 l1 a2 (-1) 0)) else (none)) else (none)
set_option maxHeartbeats 8000000 in
set_option maxRecDepth 100000 in
theorem spec_l7Up.calls (k : Nat) (A0 : Option Addr) (c0 : Nat) (l0 : List (S44)) (A1 : Option Addr) (c1 : Nat) (l1 : List Int) (a2 : Int) (r : Int) (w : World) (hr0 : Kd.C k44 w A0 l0.length l0) (hc0 : l0.length ≤ c0) (hr1 : Kd.C (Kd.int .i64) w A1 l1.length l1) (hc1 : l1.length ≤ c1) (h : spec_l7Up.f k l0 l1 a2 = some r) :
  Calls Try.prog 64 #[.slice A0 l0.length c0, .slice A1 l1.length c1, .int .i64 a2] w fun e w' => e = .returned (.int .i64 r) ∧ Below w.heap.size w w' := by
 have hu44 := Try.underlying44
 have HR0 := Aside0.mk hr0
 have HC0 := Aside0.mk hc0
 clear hr0 hc0
 have HR1 := Aside0.mk hr1
 have HC1 := Aside0.mk hc1
 clear hr1 hc1
 have HB := Aside0.mk (Below.refl w.heap.size w)
 have H : (if 0 ≤ a2 then (if a2 < (l1.length : Int) then (if (rd l1 a2) = 0 then (some (-1)) else (spec_l7Up.l0 k l0 l1 a2 (-1) 0)) else (none)) else (none)) = some r := h
 clear h
 by_cases c4 : 0 ≤ a2
 ·rw [if_pos c4] at H
  have c4b0 : decide (0 ≤ a2) = true := decide_eq_true c4
  clear c4
  by_cases c5 : a2 < (l1.length : Int)
  ·rw [if_pos c5] at H
   have c5b0 : decide (a2 < (l1.length : Int)) = true := decide_eq_true c5
   clear c5
   by_cases c6 : (rd l1 a2) = 0
   ·rw [if_pos c6] at H
    have c6b0 : ((rd l1 a2) == 0) = true := beq_iff_eq.mpr c6
    have c6b1 : ((rd l1 a2) != 0) = false := bne_eq_false_iff_eq.mpr c6
    clear c6
    obtain rfl := Option.some.inj H
    have p146 : 0 ≤ (a2 : Int) := od
    have q146 : a2 < (l1.length : Int) := od
    obtain ⟨ad146, e146, hx146_0⟩ := Kd.at_int HR1.out a2 p146 q146
    cases e146
    replace p146 := eq_true p146
    replace q146 := eq_true q146
    go_enter Try.func64, Try.ntmps64
    go_wp2
    repeat (go_quiet (fail); try go_wp2)
    go_ret
    exact ⟨fe, bw HB.out⟩
   ·rw [if_neg c6] at H
    have c6b0 : ((rd l1 a2) == 0) = false := beq_eq_false_iff_ne.mpr c6
    have c6b1 : ((rd l1 a2) != 0) = true := bne_iff_ne.mpr c6
    have H' := Aside0.mk H
    clear H
    have p146 : 0 ≤ (a2 : Int) := od
    have q146 : a2 < (l1.length : Int) := od
    obtain ⟨ad146, e146, hx146_0⟩ := Kd.at_int HR1.out a2 p146 q146
    cases e146
    replace p146 := eq_true p146
    replace q146 := eq_true q146
    go_enter Try.func64, Try.ntmps64
    go_wp2
    repeat (go_quiet (fail); try go_wp2)
    go_loopg [7, 8] k (fun kq v7 v8 w' => ∃ (x7_1 : Int) (x8_1 : Int), v7 = .int .i64 x7_1 ∧ v8 = .int .i64 x8_1 ∧ Aside0 (spec_l7Up.l0 kq l0 l1 a2 x7_1 x8_1 = some r) ∧ Aside0 (kq ≤ k) ∧ Aside0 (Below w.heap.size w w'))
    case atStart => exact ⟨((-1)), (0), fs, fs, H', ⟨Nat.le_refl _⟩, ⟨bw HB.out⟩⟩
    case round =>
     clear H'
     try clear c1
     try clear p1
     try clear q1
     try clear hx1
     try clear p2
     try clear c4
     try clear c4b0
     try clear c5
     try clear c5b0
     try clear c6
     try clear c6b0
     try clear c6b1
     try clear hx146_0
     try clear p146
     try clear q146
     obtain ⟨x7_1, x8_1, rfl, rfl, HA, HK1, HB⟩ := hrel
     cases gk with
     | zero => exact absurd HA.out (by simp [spec_l7Up.l0])
     | succ k1 =>
      have H := HA.out
      clear HA
      simp only [spec_l7Up.l0] at H
      by_cases c7 : x8_1 < (l0.length : Int)
      ·rw [if_pos c7] at H
       have c7b0 : decide (x8_1 < (l0.length : Int)) = true := decide_eq_true c7
       clear c7
       by_cases c8 : 0 ≤ x8_1
       ·rw [if_pos c8] at H
        have c8b0 : decide (0 ≤ x8_1) = true := decide_eq_true c8
        clear c8
        replace H := Option.bind_eq_some_iff.mp H
        obtain ⟨t148, A90, H⟩ := H
        try dsimp only at H
        have A9 := Aside0.mk A90
        clear A90
        have HC10 := Aside0.mk H
        clear H
        have p147 : 0 ≤ (x8_1 : Int) := od
        have q147 : x8_1 < (l0.length : Int) := od
        obtain ⟨ad147, e147, hx147_0, hx147_1, hx147_2⟩ := at_T44 HR0.out x8_1 p147 q147
        cases e147
        (try replace hx147_0 := (HB.out.cell (World.block_lt_of_cell? w _ hx147_0)).trans hx147_0)
        (try replace hx147_1 := (HB.out.cell (World.block_lt_of_cell? w _ hx147_1)).trans hx147_1)
        (try replace hx147_2 := (HB.out.cell (World.block_lt_of_cell? w _ hx147_2)).trans hx147_2)
        replace p147 := eq_true p147
        replace q147 := eq_true q147
        go_upto_region 8 with (first | (go_at_call 74; (with_reducible refine (spec_l7Other.calls ((rd_T44 l0 x8_1).f0) ((rd_T44 l0 x8_1).f1) ((rd_T44 l0 x8_1).f2) a2 t148 _ A9.out).mono ?_); rintro e w11 ⟨rfl, hb⟩; have n0_ := Aside0.mk (below_step (bw HB.out) hb); clear HB; have HB := n0_; clear n0_; (try clear hb); (try clear hb2); (try clear hk); (try clear hi)))
        repeat (go_quiet (first | (go_at_call 74; (with_reducible refine (spec_l7Other.calls ((rd_T44 l0 x8_1).f0) ((rd_T44 l0 x8_1).f1) ((rd_T44 l0 x8_1).f2) a2 t148 _ A9.out).mono ?_); rintro e w11 ⟨rfl, hb⟩; have n0_ := Aside0.mk (below_step (bw HB.out) hb); clear HB; have HB := n0_; clear n0_; (try clear hb); (try clear hb2); (try clear hk); (try clear hi))); go_upto_region 8 with (first | (go_at_call 74; (with_reducible refine (spec_l7Other.calls ((rd_T44 l0 x8_1).f0) ((rd_T44 l0 x8_1).f1) ((rd_T44 l0 x8_1).f2) a2 t148 _ A9.out).mono ?_); rintro e w11 ⟨rfl, hb⟩; have n0_ := Aside0.mk (below_step (bw HB.out) hb); clear HB; have HB := n0_; clear n0_; (try clear hb); (try clear hb2); (try clear hk); (try clear hi))))
        (try simp only [Act.put, List.setIfInBounds_toArray, List.set_cons_zero, List.set_cons_succ])
        go_cut [46] (fun v46 wc => ∃ (kq : Nat) (x46_9 : Bool), v46 = .bool x46_9 ∧ Aside0 (spec_l7Up.j1 kq l0 l1 a2 x7_1 x8_1 t148 x46_9 = some r) ∧ Aside0 (kq ≤ k1) ∧ Aside0 (Below w.heap.size w wc))
        case first =>
         have H := HC10.out
         clear HC10
         by_cases c12 : t148 < 0
         ·rw [if_pos c12] at H
          have c12b0 : decide (t148 < 0) = true := decide_eq_true c12
          clear c12
          (first | rw [c12b0] | (simp only [i64_w, i32_w]; rw [c12b0]) | skip)
          have H' := Aside0.mk H
          clear H
          go_wp2
          repeat (go_quiet (fail); try go_wp2)
          go_meet
          case rel => exact ⟨_, (true), fs, H', ⟨by have := HK1.out; first | omega | exact Nat.le_refl _⟩, ⟨bw HB.out⟩⟩
         ·rw [if_neg c12] at H
          have c12b0 : decide (t148 < 0) = false := decide_eq_false c12
          clear c12
          (first | rw [c12b0] | (simp only [i64_w, i32_w]; rw [c12b0]) | skip)
          by_cases c13 : 0 ≤ t148
          ·rw [if_pos c13] at H
           have c13b0 : decide (0 ≤ t148) = true := decide_eq_true c13
           clear c13
           by_cases c14 : t148 < (l1.length : Int)
           ·rw [if_pos c14] at H
            have c14b0 : decide (t148 < (l1.length : Int)) = true := decide_eq_true c14
            clear c14
            by_cases c15 : 0 ≤ a2
            ·rw [if_pos c15] at H
             have c15b0 : decide (0 ≤ a2) = true := decide_eq_true c15
             clear c15
             by_cases c16 : a2 < (l1.length : Int)
             ·rw [if_pos c16] at H
              have c16b0 : decide (a2 < (l1.length : Int)) = true := decide_eq_true c16
              clear c16
              have H' := Aside0.mk H
              clear H
              have p149 : 0 ≤ (t148 : Int) := od
              have q149 : t148 < (l1.length : Int) := od
              obtain ⟨ad149, e149, hx149_0⟩ := Kd.at_int HR1.out t148 p149 q149
              obtain rfl : ad146 = ad149 := (by injection e149)
              (try replace hx149_0 := (HB.out.cell (World.block_lt_of_cell? w _ hx149_0)).trans hx149_0)
              replace p149 := eq_true p149
              replace q149 := eq_true q149
              have p150 : 0 ≤ (x8_1 : Int) := od
              have q150 : x8_1 < (l0.length : Int) := od
              obtain ⟨ad150, e150, hx150_0, hx150_1, hx150_2⟩ := at_T44 HR0.out x8_1 p150 q150
              obtain rfl : ad147 = ad150 := (by injection e150)
              (try replace hx150_0 := (HB.out.cell (World.block_lt_of_cell? w _ hx150_0)).trans hx150_0)
              (try replace hx150_1 := (HB.out.cell (World.block_lt_of_cell? w _ hx150_1)).trans hx150_1)
              (try replace hx150_2 := (HB.out.cell (World.block_lt_of_cell? w _ hx150_2)).trans hx150_2)
              replace p150 := eq_true p150
              replace q150 := eq_true q150
              have p151 : 0 ≤ (a2 : Int) := od
              have q151 : a2 < (l1.length : Int) := od
              obtain ⟨ad151, e151, hx151_0⟩ := Kd.at_int HR1.out a2 p151 q151
              obtain rfl : ad146 = ad151 := (by injection e151)
              (try replace hx151_0 := (HB.out.cell (World.block_lt_of_cell? w _ hx151_0)).trans hx151_0)
              replace p151 := eq_true p151
              replace q151 := eq_true q151
              go_wp2
              repeat (go_quiet (fail); try go_wp2)
              go_meet
              case rel => exact ⟨_, (((wrap64 ((rd l1 t148) + ((rd_T44 l0 x8_1).f2))) != (rd l1 a2))), fs, H', ⟨by have := HK1.out; first | omega | exact Nat.le_refl _⟩, ⟨bw HB.out⟩⟩
             ·rw [if_neg c16] at H
              exact absurd H (by simp)
            ·rw [if_neg c15] at H
             exact absurd H (by simp)
           ·rw [if_neg c14] at H
            exact absurd H (by simp)
          ·rw [if_neg c13] at H
           exact absurd H (by simp)
        case rest =>
         clear HC10
         try clear c1
         try clear p1
         try clear q1
         try clear hx1
         try clear p2
         try clear c4
         try clear c4b0
         try clear c5
         try clear c5b0
         try clear c6
         try clear c6b0
         try clear c6b1
         try clear p6
         try clear c7
         try clear c7b0
         try clear c8
         try clear c8b0
         try clear c12
         try clear c12b0
         try clear c13
         try clear c13b0
         try clear c14
         try clear c14b0
         try clear p14
         try clear q14
         try clear hx14
         try clear c15
         try clear c15b0
         try clear p15
         try clear q15
         try clear hx15
         try clear c16
         try clear c16b0
         try clear hx146_0
         try clear hx147_0
         try clear hx147_1
         try clear hx147_2
         try clear hx149_0
         try clear hx150_0
         try clear hx150_1
         try clear hx150_2
         try clear hx151_0
         try clear p1
         try clear p146
         try clear p147
         try clear p149
         try clear p150
         try clear p151
         try clear p2
         try clear q1
         try clear q146
         try clear q147
         try clear q149
         try clear q150
         try clear q151
         obtain ⟨kq, x46_9, rfl, HA, HJ9, HB⟩ := hcut
         cases kq with
         | zero => exact absurd HA.out (by simp [spec_l7Up.j1])
         | succ kj9 =>
          have H := HA.out
          clear HA
          simp only [spec_l7Up.j1] at H
          by_cases c17 : x46_9 = true
          ·subst c17
           rw [if_pos rfl] at H
           have H' := Aside0.mk H
           clear H
           go_wp2
           repeat (go_quiet (fail); try go_wp2)
           go_roundg kj9
           case measure => have := HK1.out; have := HJ9.out; omega
           case rel => exact ⟨(x7_1), (wrap64 (x8_1 + 1)), fs, fs, H', ⟨by have := HK1.out; have := HJ9.out; omega⟩, ⟨bw HB.out⟩⟩
          ·replace c17 := Bool.eq_false_iff.mpr c17
           subst c17
           rw [if_neg (show ¬ (false = true) by decide)] at H
           by_cases c18 : x7_1 < 0
           ·rw [if_pos c18] at H
            have c18b0 : decide (x7_1 < 0) = true := decide_eq_true c18
            clear c18
            have H' := Aside0.mk H
            clear H
            go_wp2
            repeat (go_quiet (fail); try go_wp2)
            go_roundg kj9
            case measure => have := HK1.out; have := HJ9.out; omega
            case rel => exact ⟨(x8_1), (wrap64 (x8_1 + 1)), fs, fs, H', ⟨by have := HK1.out; have := HJ9.out; omega⟩, ⟨bw HB.out⟩⟩
           ·rw [if_neg c18] at H
            have c18b0 : decide (x7_1 < 0) = false := decide_eq_false c18
            clear c18
            by_cases c19 : 0 ≤ x7_1
            ·rw [if_pos c19] at H
             have c19b0 : decide (0 ≤ x7_1) = true := decide_eq_true c19
             clear c19
             by_cases c20 : x7_1 < (l0.length : Int)
             ·rw [if_pos c20] at H
              have c20b0 : decide (x7_1 < (l0.length : Int)) = true := decide_eq_true c20
              clear c20
              replace H := Option.bind_eq_some_iff.mp H
              obtain ⟨t153, A210, H⟩ := H
              try dsimp only at H
              have A21 := Aside0.mk A210
              clear A210
              by_cases c22 : t148 < t153
              ·rw [if_pos c22] at H
               have c22b0 : decide (t148 < t153) = true := decide_eq_true c22
               clear c22
               have H' := Aside0.mk H
               clear H
               have p152 : 0 ≤ (x7_1 : Int) := od
               have q152 : x7_1 < (l0.length : Int) := od
               obtain ⟨ad152, e152, hx152_0, hx152_1, hx152_2⟩ := at_T44 HR0.out x7_1 p152 q152
               obtain rfl : ad147 = ad152 := (by injection e152)
               (try replace hx152_0 := (HB.out.cell (World.block_lt_of_cell? w _ hx152_0)).trans hx152_0)
               (try replace hx152_1 := (HB.out.cell (World.block_lt_of_cell? w _ hx152_1)).trans hx152_1)
               (try replace hx152_2 := (HB.out.cell (World.block_lt_of_cell? w _ hx152_2)).trans hx152_2)
               replace p152 := eq_true p152
               replace q152 := eq_true q152
               go_wp2_with (first | (go_at_call 74; (with_reducible refine (spec_l7Other.calls ((rd_T44 l0 x7_1).f0) ((rd_T44 l0 x7_1).f1) ((rd_T44 l0 x7_1).f2) a2 t153 _ A21.out).mono ?_); rintro e w23 ⟨rfl, hb⟩; have n0_ := Aside0.mk (below_step (bw HB.out) hb); clear HB; have HB := n0_; clear n0_; (try clear hb); (try clear hb2); (try clear hk); (try clear hi)))
               repeat (go_quiet (first | (go_at_call 74; (with_reducible refine (spec_l7Other.calls ((rd_T44 l0 x7_1).f0) ((rd_T44 l0 x7_1).f1) ((rd_T44 l0 x7_1).f2) a2 t153 _ A21.out).mono ?_); rintro e w23 ⟨rfl, hb⟩; have n0_ := Aside0.mk (below_step (bw HB.out) hb); clear HB; have HB := n0_; clear n0_; (try clear hb); (try clear hb2); (try clear hk); (try clear hi))); try go_wp2_with (first | (go_at_call 74; (with_reducible refine (spec_l7Other.calls ((rd_T44 l0 x7_1).f0) ((rd_T44 l0 x7_1).f1) ((rd_T44 l0 x7_1).f2) a2 t153 _ A21.out).mono ?_); rintro e w23 ⟨rfl, hb⟩; have n0_ := Aside0.mk (below_step (bw HB.out) hb); clear HB; have HB := n0_; clear n0_; (try clear hb); (try clear hb2); (try clear hk); (try clear hi))))
               go_roundg kj9
               case measure => have := HK1.out; have := HJ9.out; omega
               case rel => exact ⟨(x8_1), (wrap64 (x8_1 + 1)), fs, fs, H', ⟨by have := HK1.out; have := HJ9.out; omega⟩, ⟨bw HB.out⟩⟩
              ·rw [if_neg c22] at H
               have c22b0 : decide (t148 < t153) = false := decide_eq_false c22
               clear c22
               have H' := Aside0.mk H
               clear H
               have p152 : 0 ≤ (x7_1 : Int) := od
               have q152 : x7_1 < (l0.length : Int) := od
               obtain ⟨ad152, e152, hx152_0, hx152_1, hx152_2⟩ := at_T44 HR0.out x7_1 p152 q152
               obtain rfl : ad147 = ad152 := (by injection e152)
               (try replace hx152_0 := (HB.out.cell (World.block_lt_of_cell? w _ hx152_0)).trans hx152_0)
               (try replace hx152_1 := (HB.out.cell (World.block_lt_of_cell? w _ hx152_1)).trans hx152_1)
               (try replace hx152_2 := (HB.out.cell (World.block_lt_of_cell? w _ hx152_2)).trans hx152_2)
               replace p152 := eq_true p152
               replace q152 := eq_true q152
               go_wp2_with (first | (go_at_call 74; (with_reducible refine (spec_l7Other.calls ((rd_T44 l0 x7_1).f0) ((rd_T44 l0 x7_1).f1) ((rd_T44 l0 x7_1).f2) a2 t153 _ A21.out).mono ?_); rintro e w24 ⟨rfl, hb⟩; have n0_ := Aside0.mk (below_step (bw HB.out) hb); clear HB; have HB := n0_; clear n0_; (try clear hb); (try clear hb2); (try clear hk); (try clear hi)))
               repeat (go_quiet (first | (go_at_call 74; (with_reducible refine (spec_l7Other.calls ((rd_T44 l0 x7_1).f0) ((rd_T44 l0 x7_1).f1) ((rd_T44 l0 x7_1).f2) a2 t153 _ A21.out).mono ?_); rintro e w24 ⟨rfl, hb⟩; have n0_ := Aside0.mk (below_step (bw HB.out) hb); clear HB; have HB := n0_; clear n0_; (try clear hb); (try clear hb2); (try clear hk); (try clear hi))); try go_wp2_with (first | (go_at_call 74; (with_reducible refine (spec_l7Other.calls ((rd_T44 l0 x7_1).f0) ((rd_T44 l0 x7_1).f1) ((rd_T44 l0 x7_1).f2) a2 t153 _ A21.out).mono ?_); rintro e w24 ⟨rfl, hb⟩; have n0_ := Aside0.mk (below_step (bw HB.out) hb); clear HB; have HB := n0_; clear n0_; (try clear hb); (try clear hb2); (try clear hk); (try clear hi))))
               go_roundg kj9
               case measure => have := HK1.out; have := HJ9.out; omega
               case rel => exact ⟨(x7_1), (wrap64 (x8_1 + 1)), fs, fs, H', ⟨by have := HK1.out; have := HJ9.out; omega⟩, ⟨bw HB.out⟩⟩
             ·rw [if_neg c20] at H
              exact absurd H (by simp)
            ·rw [if_neg c19] at H
             exact absurd H (by simp)
       ·rw [if_neg c8] at H
        exact absurd H (by simp)
      ·rw [if_neg c7] at H
       have c7b0 : decide (x8_1 < (l0.length : Int)) = false := decide_eq_false c7
       clear c7
       obtain rfl := Option.some.inj H
       go_wp2
       repeat (go_quiet (fail); try go_wp2)
       go_ret
       exact ⟨fe, bw HB.out⟩
  ·rw [if_neg c5] at H
   exact absurd H (by simp)
 ·rw [if_neg c4] at H
  exact absurd H (by simp)

end Go.Proofs.Ytegnghbgkiddoaa.PA
