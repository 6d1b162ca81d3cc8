-- Laid by this session's own program (pr.py) over the translation; Lean checks it.
import Derived.Test.YtegnghbgkiddoaaPA0
import Derived.Test.YtegnghbgkiddoaaPA1
import Derived.Test.YtegnghbgkiddoaaPA2
import Derived.Test.YtegnghbgkiddoaaHSq
import Derived.Test.YtegnghbgkiddoaaHSq
namespace Go.Proofs.Ytegnghbgkiddoaa.PA
open Go.RowKit Go.Proofs.YtegnghbgkiddoaaW.PrintWords Go.Proofs.YtegnghbgkiddoaaW.PrintLast Go.Proofs.YtegnghbgkiddoaaW.PrintMore
attribute [local go_sem] max2_int min2_int max_two min_two max_three min_three max_four min_four   -- for this text's walks alone
set_option linter.unusedVariables false
set_option linter.unusedSimpArgs false

/-! ### spec_CablesValid: function 34 -/
-- IMPORT HSq
mutual
def spec_CablesValid.j0 : Nat → Int → List (S44) → Bool → Option (Bool)
 | 0, _, _, _ => none
 | k + 1, x0, x1, x14 => if x14 = true then (some false) else (spec_CablesValid.l0 k x0 x1 0)
def spec_CablesValid.l0 : Nat → Int → List (S44) → Int → Option (Bool)
 | 0, _, _, _ => none
 | k + 1, x0, x1, x5 => if x5 < (x1.length : Int) then (if 0 ≤ x5 then ((spec_l1In.f ((rd_T44 x1 x5).f0) 0 (wrap64 (x0 - 1))).bind fun t104 => (if t104 = true then ((spec_l1In.f ((rd_T44 x1 x5).f1) 0 (wrap64 (x0 - 1))).bind fun t105 => (if t105 = true then (if ((rd_T44 x1 x5).f0) = ((rd_T44 x1 x5).f1) then (some false) else ((spec_l1In.f ((rd_T44 x1 x5).f2) 1 99).bind fun t106 => (if t106 = true then (spec_CablesValid.l0 k x0 x1 (wrap64 (x5 + 1))) else (some false)))) else (some false))) else (some false))) else (none)) else (some true)
end
def spec_CablesValid.f (k : Nat) (a0 : Int) (l1 : List (S44)) : Option (Bool) := (spec_l1In.f a0 1 8).bind fun t101 => (if t101 = true then (spec_CablesValid.j0 k a0 l1 (decide ((l1.length : Int) > 20))) else (spec_CablesValid.j0 k a0 l1 true))
set_option maxHeartbeats 8000000 in
set_option maxRecDepth 100000 in
theorem spec_CablesValid.calls (k : Nat) (a0 : Int) (A1 : Option Addr) (c1 : Nat) (l1 : List (S44)) (r : Bool) (w : World) (hr1 : Kd.C k44 w A1 l1.length l1) (hc1 : l1.length ≤ c1) (h : spec_CablesValid.f k a0 l1 = some r) :
  Calls Try.prog 34 #[.int .i64 a0, .slice A1 l1.length c1] w fun e w' => e = .returned (.bool r) ∧ Below w.heap.size w w' := by
 have hu44 := Try.underlying44
 have HR1 := Aside0.mk hr1
 have HC1 := Aside0.mk hc1
 clear hr1 hc1
 have HB := Aside0.mk (Below.refl w.heap.size w)
 have H : ((spec_l1In.f a0 1 8).bind fun t101 => (if t101 = true then (spec_CablesValid.j0 k a0 l1 (decide ((l1.length : Int) > 20))) else (spec_CablesValid.j0 k a0 l1 true))) = some r := h
 clear h
 have HC3 := Aside0.mk H
 clear H
 go_enter Try.func34, Try.ntmps34
 go_upto_region 1 with (fail)
 go_cut [14] (fun v14 wc => ∃ (kq : Nat) (x14_2 : Bool), v14 = .bool x14_2 ∧ Aside0 (spec_CablesValid.j0 kq a0 l1 x14_2 = some r) ∧ Aside0 (kq ≤ k) ∧ Aside0 (Below w.heap.size w wc))
 case first =>
  have H := HC3.out
  clear HC3
  replace H := Option.bind_eq_some_iff.mp H
  obtain ⟨t101, A40, H⟩ := H
  try dsimp only at H
  have A4 := Aside0.mk A40
  clear A40
  by_cases c5 : t101 = true
  ·subst c5
   rw [if_pos rfl] at H
   have H' := Aside0.mk H
   clear H
   go_wp2_with (first | ((with_reducible refine gate_callee (f := 71) rfl ?_); refine goesL_ (some 8) rfl rfl Try.func71 (by kernel_rfl) rfl #[.int .i64 a0, .int .i64 1, .int .i64 8] rfl (by (try simp only [List.map_toArray, List.map_cons, List.map_nil]); first | done | rfl | (simp only [List.length_drop, List.length_take]; rfl)) ?_; (with_reducible refine (spec_l1In.calls a0 1 8 true _ A4.out).mono ?_); rintro e w' ⟨rfl, ⟨nd, rfl⟩⟩; refine ⟨_, rfl, ?_⟩))
   go_meet
   case rel => exact ⟨_, (decide ((l1.length : Int) > 20)), fs, H', ⟨by first | omega | exact Nat.le_refl _⟩, ⟨bw HB.out⟩⟩
  ·replace c5 := Bool.eq_false_iff.mpr c5
   subst c5
   rw [if_neg (show ¬ (false = true) by decide)] at H
   have H' := Aside0.mk H
   clear H
   go_wp2_with (first | ((with_reducible refine gate_callee (f := 71) rfl ?_); refine goesL_ (some 8) rfl rfl Try.func71 (by kernel_rfl) rfl #[.int .i64 a0, .int .i64 1, .int .i64 8] rfl (by (try simp only [List.map_toArray, List.map_cons, List.map_nil]); first | done | rfl | (simp only [List.length_drop, List.length_take]; rfl)) ?_; (with_reducible refine (spec_l1In.calls a0 1 8 false _ A4.out).mono ?_); rintro e w' ⟨rfl, ⟨nd, rfl⟩⟩; refine ⟨_, rfl, ?_⟩))
   go_meet
   case rel => exact ⟨_, (true), fs, H', ⟨by first | omega | exact Nat.le_refl _⟩, ⟨bw HB.out⟩⟩
 case rest =>
  clear HC3
  try clear c1
  try clear p2
  try clear c3
  try clear c5
  obtain ⟨kq, x14_2, rfl, HA, HJ2, HB⟩ := hcut
  cases kq with
  | zero => exact absurd HA.out (by simp [spec_CablesValid.j0])
  | succ kj2 =>
   have H := HA.out
   clear HA
   simp only [spec_CablesValid.j0] at H
   by_cases c6 : x14_2 = true
   ·subst c6
    rw [if_pos rfl] at H
    obtain rfl := Option.some.inj H
    go_wp2
    go_ret
    exact ⟨fe, bw HB.out⟩
   ·replace c6 := Bool.eq_false_iff.mpr c6
    subst c6
    rw [if_neg (show ¬ (false = true) by decide)] at H
    have H' := Aside0.mk H
    clear H
    go_wp2
    go_loopg [5] kj2 (fun kq v5 w' => ∃ (x5_2 : Int), v5 = .int .i64 x5_2 ∧ Aside0 (spec_CablesValid.l0 kq a0 l1 x5_2 = some r) ∧ Aside0 (kq ≤ kj2) ∧ Aside0 (Below w.heap.size w w'))
    case atStart => exact ⟨(0), fs, H', ⟨Nat.le_refl _⟩, ⟨bw HB.out⟩⟩
    case round =>
     clear H'
     try clear c1
     try clear p2
     try clear c3
     try clear c5
     try clear c6
     try clear p2
     obtain ⟨x5_2, rfl, HA, HK2, HB⟩ := hrel
     cases gk with
     | zero => exact absurd HA.out (by simp [spec_CablesValid.l0])
     | succ k2 =>
      have H := HA.out
      clear HA
      simp only [spec_CablesValid.l0] at H
      by_cases c7 : x5_2 < (l1.length : Int)
      ·rw [if_pos c7] at H
       have c7b0 : decide (x5_2 < (l1.length : Int)) = true := decide_eq_true c7
       clear c7
       by_cases c8 : 0 ≤ x5_2
       ·rw [if_pos c8] at H
        have c8b0 : decide (0 ≤ x5_2) = true := decide_eq_true c8
        clear c8
        replace H := Option.bind_eq_some_iff.mp H
        obtain ⟨t104, A90, H⟩ := H
        try dsimp only at H
        have A9 := Aside0.mk A90
        clear A90
        by_cases c10 : t104 = true
        ·subst c10
         rw [if_pos rfl] at H
         replace H := Option.bind_eq_some_iff.mp H
         obtain ⟨t105, A110, H⟩ := H
         try dsimp only at H
         have A11 := Aside0.mk A110
         clear A110
         by_cases c12 : t105 = true
         ·subst c12
          rw [if_pos rfl] at H
          by_cases c13 : ((rd_T44 l1 x5_2).f0) = ((rd_T44 l1 x5_2).f1)
          ·rw [if_pos c13] at H
           have c13b0 : (((rd_T44 l1 x5_2).f0) == ((rd_T44 l1 x5_2).f1)) = true := beq_iff_eq.mpr c13
           have c13b1 : (((rd_T44 l1 x5_2).f0) != ((rd_T44 l1 x5_2).f1)) = false := bne_eq_false_iff_eq.mpr c13
           clear c13
           obtain rfl := Option.some.inj H
           have p102 : 0 ≤ (x5_2 : Int) := od
           have q102 : x5_2 < (l1.length : Int) := od
           obtain ⟨ad102, e102, hx102_0, hx102_1, hx102_2⟩ := at_T44 HR1.out x5_2 p102 q102
           cases e102
           (try replace hx102_0 := (HB.out.cell (World.block_lt_of_cell? w _ hx102_0)).trans hx102_0)
           (try replace hx102_1 := (HB.out.cell (World.block_lt_of_cell? w _ hx102_1)).trans hx102_1)
           (try replace hx102_2 := (HB.out.cell (World.block_lt_of_cell? w _ hx102_2)).trans hx102_2)
           replace p102 := eq_true p102
           replace q102 := eq_true q102
           go_wp2_with (first | ((with_reducible refine gate_dst (N := 6) rfl ?_); (try (refine gate_guard (by rfl) ?_; dsimp only)); refine box_event ?hg (N := 6) ?hd (cs := #[.int .i64 0, .int .i64 0, .int .i64 0]) (t := 44) ?hr ?_; (case hd => rfl); (case hg => rfl); (case hr => first | (go_simp; done) | (go_simp; rfl)); intro gb103 hg w14 hbox hb; have n0_ := Aside0.mk (below_step (bw HB.out) hb); have n1_ := Aside0.mk (hbox); have n2_ := Aside0.mk ((by rw [hg]; exact (below_size (bw HB.out)) : w.heap.size ≤ gb103)); have n3_ := Aside0.mk ((by rw [hg]; exact (below_size (bw HB.out)) : w.heap.size ≤ gb103)); clear HB; have HB := n0_; have BK103 := n1_; have GW103 := n2_; have GE103 := n3_; clear n0_ n1_ n2_ n3_; clear hb hbox hg; have hcz15_0 : w14.cell? ⟨gb103, 0, none⟩ = some (.int .i64 0) := (blk_cell BK103.out 0).trans rfl; have hcz15_1 : w14.cell? ⟨gb103, 1, none⟩ = some (.int .i64 0) := (blk_cell BK103.out 1).trans rfl; have hcz15_2 : w14.cell? ⟨gb103, 2, none⟩ = some (.int .i64 0) := (blk_cell BK103.out 2).trans rfl; have hfz15_0 := blk_frozen BK103.out 0; have hfz15_1 := blk_frozen BK103.out 1; have hfz15_2 := blk_frozen BK103.out 2) | ((with_reducible refine gate_callee (f := 71) rfl ?_); refine goesL_ (some 29) rfl rfl Try.func71 (by kernel_rfl) rfl #[.int .i64 ((rd_T44 l1 x5_2).f0), .int .i64 0, .int .i64 (wrap64 (a0 - 1))] rfl (by (try simp only [List.map_toArray, List.map_cons, List.map_nil]); first | done | rfl | (simp only [List.length_drop, List.length_take]; rfl)) ?_; (with_reducible refine (spec_l1In.calls ((rd_T44 l1 x5_2).f0) 0 (wrap64 (a0 - 1)) true _ A9.out).mono ?_); rintro e w' ⟨rfl, ⟨nd, rfl⟩⟩; refine ⟨_, rfl, ?_⟩) | (go_at_call 71; (with_reducible refine (spec_l1In.calls ((rd_T44 l1 x5_2).f1) 0 (wrap64 (a0 - 1)) true _ A11.out).mono ?_); rintro e w' ⟨rfl, ⟨nd, rfl⟩⟩))
           go_ret
           exact ⟨fe, bw HB.out⟩
          ·rw [if_neg c13] at H
           have c13b0 : (((rd_T44 l1 x5_2).f0) == ((rd_T44 l1 x5_2).f1)) = false := beq_eq_false_iff_ne.mpr c13
           have c13b1 : (((rd_T44 l1 x5_2).f0) != ((rd_T44 l1 x5_2).f1)) = true := bne_iff_ne.mpr c13
           replace H := Option.bind_eq_some_iff.mp H
           obtain ⟨t106, A160, H⟩ := H
           try dsimp only at H
           have A16 := Aside0.mk A160
           clear A160
           by_cases c17 : t106 = true
           ·subst c17
            rw [if_pos rfl] at H
            have H' := Aside0.mk H
            clear H
            have p102 : 0 ≤ (x5_2 : Int) := od
            have q102 : x5_2 < (l1.length : Int) := od
            obtain ⟨ad102, e102, hx102_0, hx102_1, hx102_2⟩ := at_T44 HR1.out x5_2 p102 q102
            cases e102
            (try replace hx102_0 := (HB.out.cell (World.block_lt_of_cell? w _ hx102_0)).trans hx102_0)
            (try replace hx102_1 := (HB.out.cell (World.block_lt_of_cell? w _ hx102_1)).trans hx102_1)
            (try replace hx102_2 := (HB.out.cell (World.block_lt_of_cell? w _ hx102_2)).trans hx102_2)
            replace p102 := eq_true p102
            replace q102 := eq_true q102
            go_wp2_with (first | ((with_reducible refine gate_dst (N := 6) rfl ?_); (try (refine gate_guard (by rfl) ?_; dsimp only)); refine box_event ?hg (N := 6) ?hd (cs := #[.int .i64 0, .int .i64 0, .int .i64 0]) (t := 44) ?hr ?_; (case hd => rfl); (case hg => rfl); (case hr => first | (go_simp; done) | (go_simp; rfl)); intro gb103 hg w18 hbox hb; have n0_ := Aside0.mk (below_step (bw HB.out) hb); have n1_ := Aside0.mk (hbox); have n2_ := Aside0.mk ((by rw [hg]; exact (below_size (bw HB.out)) : w.heap.size ≤ gb103)); have n3_ := Aside0.mk ((by rw [hg]; exact (below_size (bw HB.out)) : w.heap.size ≤ gb103)); clear HB; have HB := n0_; have BK103 := n1_; have GW103 := n2_; have GE103 := n3_; clear n0_ n1_ n2_ n3_; clear hb hbox hg; have hcz19_0 : w18.cell? ⟨gb103, 0, none⟩ = some (.int .i64 0) := (blk_cell BK103.out 0).trans rfl; have hcz19_1 : w18.cell? ⟨gb103, 1, none⟩ = some (.int .i64 0) := (blk_cell BK103.out 1).trans rfl; have hcz19_2 : w18.cell? ⟨gb103, 2, none⟩ = some (.int .i64 0) := (blk_cell BK103.out 2).trans rfl; have hfz19_0 := blk_frozen BK103.out 0; have hfz19_1 := blk_frozen BK103.out 1; have hfz19_2 := blk_frozen BK103.out 2) | ((with_reducible refine gate_callee (f := 71) rfl ?_); refine goesL_ (some 29) rfl rfl Try.func71 (by kernel_rfl) rfl #[.int .i64 ((rd_T44 l1 x5_2).f0), .int .i64 0, .int .i64 (wrap64 (a0 - 1))] rfl (by (try simp only [List.map_toArray, List.map_cons, List.map_nil]); first | done | rfl | (simp only [List.length_drop, List.length_take]; rfl)) ?_; (with_reducible refine (spec_l1In.calls ((rd_T44 l1 x5_2).f0) 0 (wrap64 (a0 - 1)) true _ A9.out).mono ?_); rintro e w' ⟨rfl, ⟨nd, rfl⟩⟩; refine ⟨_, rfl, ?_⟩) | (go_at_call 71; (with_reducible refine (spec_l1In.calls ((rd_T44 l1 x5_2).f1) 0 (wrap64 (a0 - 1)) true _ A11.out).mono ?_); rintro e w' ⟨rfl, ⟨nd, rfl⟩⟩) | (go_at_call 71; (with_reducible refine (spec_l1In.calls ((rd_T44 l1 x5_2).f2) 1 99 true _ A16.out).mono ?_); rintro e w' ⟨rfl, ⟨nd, rfl⟩⟩))
            go_roundg k2
            case measure => have := HJ2.out; have := HK2.out; omega
            case rel => exact ⟨(wrap64 (x5_2 + 1)), fs, H', ⟨by have := HJ2.out; have := HK2.out; omega⟩, ⟨bw HB.out⟩⟩
           ·replace c17 := Bool.eq_false_iff.mpr c17
            subst c17
            rw [if_neg (show ¬ (false = true) by decide)] at H
            obtain rfl := Option.some.inj H
            have p102 : 0 ≤ (x5_2 : Int) := od
            have q102 : x5_2 < (l1.length : Int) := od
            obtain ⟨ad102, e102, hx102_0, hx102_1, hx102_2⟩ := at_T44 HR1.out x5_2 p102 q102
            cases e102
            (try replace hx102_0 := (HB.out.cell (World.block_lt_of_cell? w _ hx102_0)).trans hx102_0)
            (try replace hx102_1 := (HB.out.cell (World.block_lt_of_cell? w _ hx102_1)).trans hx102_1)
            (try replace hx102_2 := (HB.out.cell (World.block_lt_of_cell? w _ hx102_2)).trans hx102_2)
            replace p102 := eq_true p102
            replace q102 := eq_true q102
            go_wp2_with (first | ((with_reducible refine gate_dst (N := 6) rfl ?_); (try (refine gate_guard (by rfl) ?_; dsimp only)); refine box_event ?hg (N := 6) ?hd (cs := #[.int .i64 0, .int .i64 0, .int .i64 0]) (t := 44) ?hr ?_; (case hd => rfl); (case hg => rfl); (case hr => first | (go_simp; done) | (go_simp; rfl)); intro gb103 hg w20 hbox hb; have n0_ := Aside0.mk (below_step (bw HB.out) hb); have n1_ := Aside0.mk (hbox); have n2_ := Aside0.mk ((by rw [hg]; exact (below_size (bw HB.out)) : w.heap.size ≤ gb103)); have n3_ := Aside0.mk ((by rw [hg]; exact (below_size (bw HB.out)) : w.heap.size ≤ gb103)); clear HB; have HB := n0_; have BK103 := n1_; have GW103 := n2_; have GE103 := n3_; clear n0_ n1_ n2_ n3_; clear hb hbox hg; have hcz21_0 : w20.cell? ⟨gb103, 0, none⟩ = some (.int .i64 0) := (blk_cell BK103.out 0).trans rfl; have hcz21_1 : w20.cell? ⟨gb103, 1, none⟩ = some (.int .i64 0) := (blk_cell BK103.out 1).trans rfl; have hcz21_2 : w20.cell? ⟨gb103, 2, none⟩ = some (.int .i64 0) := (blk_cell BK103.out 2).trans rfl; have hfz21_0 := blk_frozen BK103.out 0; have hfz21_1 := blk_frozen BK103.out 1; have hfz21_2 := blk_frozen BK103.out 2) | ((with_reducible refine gate_callee (f := 71) rfl ?_); refine goesL_ (some 29) rfl rfl Try.func71 (by kernel_rfl) rfl #[.int .i64 ((rd_T44 l1 x5_2).f0), .int .i64 0, .int .i64 (wrap64 (a0 - 1))] rfl (by (try simp only [List.map_toArray, List.map_cons, List.map_nil]); first | done | rfl | (simp only [List.length_drop, List.length_take]; rfl)) ?_; (with_reducible refine (spec_l1In.calls ((rd_T44 l1 x5_2).f0) 0 (wrap64 (a0 - 1)) true _ A9.out).mono ?_); rintro e w' ⟨rfl, ⟨nd, rfl⟩⟩; refine ⟨_, rfl, ?_⟩) | (go_at_call 71; (with_reducible refine (spec_l1In.calls ((rd_T44 l1 x5_2).f1) 0 (wrap64 (a0 - 1)) true _ A11.out).mono ?_); rintro e w' ⟨rfl, ⟨nd, rfl⟩⟩) | (go_at_call 71; (with_reducible refine (spec_l1In.calls ((rd_T44 l1 x5_2).f2) 1 99 false _ A16.out).mono ?_); rintro e w' ⟨rfl, ⟨nd, rfl⟩⟩))
            go_ret
            exact ⟨fe, bw HB.out⟩
         ·replace c12 := Bool.eq_false_iff.mpr c12
          subst c12
          rw [if_neg (show ¬ (false = true) by decide)] at H
          obtain rfl := Option.some.inj H
          have p102 : 0 ≤ (x5_2 : Int) := od
          have q102 : x5_2 < (l1.length : Int) := od
          obtain ⟨ad102, e102, hx102_0, hx102_1, hx102_2⟩ := at_T44 HR1.out x5_2 p102 q102
          cases e102
          (try replace hx102_0 := (HB.out.cell (World.block_lt_of_cell? w _ hx102_0)).trans hx102_0)
          (try replace hx102_1 := (HB.out.cell (World.block_lt_of_cell? w _ hx102_1)).trans hx102_1)
          (try replace hx102_2 := (HB.out.cell (World.block_lt_of_cell? w _ hx102_2)).trans hx102_2)
          replace p102 := eq_true p102
          replace q102 := eq_true q102
          go_wp2_with (first | ((with_reducible refine gate_dst (N := 6) rfl ?_); (try (refine gate_guard (by rfl) ?_; dsimp only)); refine box_event ?hg (N := 6) ?hd (cs := #[.int .i64 0, .int .i64 0, .int .i64 0]) (t := 44) ?hr ?_; (case hd => rfl); (case hg => rfl); (case hr => first | (go_simp; done) | (go_simp; rfl)); intro gb103 hg w22 hbox hb; have n0_ := Aside0.mk (below_step (bw HB.out) hb); have n1_ := Aside0.mk (hbox); have n2_ := Aside0.mk ((by rw [hg]; exact (below_size (bw HB.out)) : w.heap.size ≤ gb103)); have n3_ := Aside0.mk ((by rw [hg]; exact (below_size (bw HB.out)) : w.heap.size ≤ gb103)); clear HB; have HB := n0_; have BK103 := n1_; have GW103 := n2_; have GE103 := n3_; clear n0_ n1_ n2_ n3_; clear hb hbox hg; have hcz23_0 : w22.cell? ⟨gb103, 0, none⟩ = some (.int .i64 0) := (blk_cell BK103.out 0).trans rfl; have hcz23_1 : w22.cell? ⟨gb103, 1, none⟩ = some (.int .i64 0) := (blk_cell BK103.out 1).trans rfl; have hcz23_2 : w22.cell? ⟨gb103, 2, none⟩ = some (.int .i64 0) := (blk_cell BK103.out 2).trans rfl; have hfz23_0 := blk_frozen BK103.out 0; have hfz23_1 := blk_frozen BK103.out 1; have hfz23_2 := blk_frozen BK103.out 2) | ((with_reducible refine gate_callee (f := 71) rfl ?_); refine goesL_ (some 29) rfl rfl Try.func71 (by kernel_rfl) rfl #[.int .i64 ((rd_T44 l1 x5_2).f0), .int .i64 0, .int .i64 (wrap64 (a0 - 1))] rfl (by (try simp only [List.map_toArray, List.map_cons, List.map_nil]); first | done | rfl | (simp only [List.length_drop, List.length_take]; rfl)) ?_; (with_reducible refine (spec_l1In.calls ((rd_T44 l1 x5_2).f0) 0 (wrap64 (a0 - 1)) true _ A9.out).mono ?_); rintro e w' ⟨rfl, ⟨nd, rfl⟩⟩; refine ⟨_, rfl, ?_⟩) | (go_at_call 71; (with_reducible refine (spec_l1In.calls ((rd_T44 l1 x5_2).f1) 0 (wrap64 (a0 - 1)) false _ A11.out).mono ?_); rintro e w' ⟨rfl, ⟨nd, rfl⟩⟩))
          go_ret
          exact ⟨fe, bw HB.out⟩
        ·replace c10 := Bool.eq_false_iff.mpr c10
         subst c10
         rw [if_neg (show ¬ (false = true) by decide)] at H
         obtain rfl := Option.some.inj H
         have p102 : 0 ≤ (x5_2 : Int) := od
         have q102 : x5_2 < (l1.length : Int) := od
         obtain ⟨ad102, e102, hx102_0, hx102_1, hx102_2⟩ := at_T44 HR1.out x5_2 p102 q102
         cases e102
         (try replace hx102_0 := (HB.out.cell (World.block_lt_of_cell? w _ hx102_0)).trans hx102_0)
         (try replace hx102_1 := (HB.out.cell (World.block_lt_of_cell? w _ hx102_1)).trans hx102_1)
         (try replace hx102_2 := (HB.out.cell (World.block_lt_of_cell? w _ hx102_2)).trans hx102_2)
         replace p102 := eq_true p102
         replace q102 := eq_true q102
         go_wp2_with (first | ((with_reducible refine gate_dst (N := 6) rfl ?_); (try (refine gate_guard (by rfl) ?_; dsimp only)); refine box_event ?hg (N := 6) ?hd (cs := #[.int .i64 0, .int .i64 0, .int .i64 0]) (t := 44) ?hr ?_; (case hd => rfl); (case hg => rfl); (case hr => first | (go_simp; done) | (go_simp; rfl)); intro gb103 hg w24 hbox hb; have n0_ := Aside0.mk (below_step (bw HB.out) hb); have n1_ := Aside0.mk (hbox); have n2_ := Aside0.mk ((by rw [hg]; exact (below_size (bw HB.out)) : w.heap.size ≤ gb103)); have n3_ := Aside0.mk ((by rw [hg]; exact (below_size (bw HB.out)) : w.heap.size ≤ gb103)); clear HB; have HB := n0_; have BK103 := n1_; have GW103 := n2_; have GE103 := n3_; clear n0_ n1_ n2_ n3_; clear hb hbox hg; have hcz25_0 : w24.cell? ⟨gb103, 0, none⟩ = some (.int .i64 0) := (blk_cell BK103.out 0).trans rfl; have hcz25_1 : w24.cell? ⟨gb103, 1, none⟩ = some (.int .i64 0) := (blk_cell BK103.out 1).trans rfl; have hcz25_2 : w24.cell? ⟨gb103, 2, none⟩ = some (.int .i64 0) := (blk_cell BK103.out 2).trans rfl; have hfz25_0 := blk_frozen BK103.out 0; have hfz25_1 := blk_frozen BK103.out 1; have hfz25_2 := blk_frozen BK103.out 2) | ((with_reducible refine gate_callee (f := 71) rfl ?_); refine goesL_ (some 29) rfl rfl Try.func71 (by kernel_rfl) rfl #[.int .i64 ((rd_T44 l1 x5_2).f0), .int .i64 0, .int .i64 (wrap64 (a0 - 1))] rfl (by (try simp only [List.map_toArray, List.map_cons, List.map_nil]); first | done | rfl | (simp only [List.length_drop, List.length_take]; rfl)) ?_; (with_reducible refine (spec_l1In.calls ((rd_T44 l1 x5_2).f0) 0 (wrap64 (a0 - 1)) false _ A9.out).mono ?_); rintro e w' ⟨rfl, ⟨nd, rfl⟩⟩; refine ⟨_, rfl, ?_⟩))
         go_ret
         exact ⟨fe, bw HB.out⟩
       ·rw [if_neg c8] at H
        exact absurd H (by simp)
      ·rw [if_neg c7] at H
       have c7b0 : decide (x5_2 < (l1.length : Int)) = false := decide_eq_false c7
       clear c7
       obtain rfl := Option.some.inj H
       go_wp2
       go_ret
       exact ⟨fe, bw HB.out⟩

/-! ### impl_CablesValid: function 35 -/
-- IMPORT HSq
def impl_CablesValid.f (a0 : Int) (l1 : List (S44)) : Option (Bool) := some (decide (1 ≤ a0 ∧ a0 ≤ 8) && (decide ((l1.length : Int) ≤ 20) && l1.all (fun x => decide (0 ≤ x.f0 ∧ x.f0 ≤ a0 - 1) && (decide (0 ≤ x.f1 ∧ x.f1 ≤ a0 - 1) && (!(x.f0 == x.f1) && decide (1 ≤ x.f2 ∧ x.f2 ≤ 99))))))
def impl_CablesValid.SomeIdx (b : Bool) (w : World) (e : Ending) (w' : World) : Prop := ∃ z : Int, e = .returned (.int .i64 z) ∧ decide (0 ≤ z) = b ∧ Below w.heap.size w w'
def impl_CablesValid.Pred (g : Nat) (lb : Array Value) (p : S44 → Bool) (w : World) : Prop :=
 ∀ (W : World) (x : S44), Below w.heap.size w W → Calls Try.prog g (#[.agg #[.int .i64 x.f0, .int .i64 x.f1, .int .i64 x.f2]] ++ lb) W fun e w' => e = .returned (.bool (p x)) ∧ Below W.heap.size W w'
theorem impl_CablesValid.Pred.later {g : Nat} {lb : Array Value} {p : S44 → Bool} {w W : World} (h : impl_CablesValid.Pred g lb p w) (hb : Below w.heap.size w W) : impl_CablesValid.Pred g lb p W :=
 fun W' x hb' => h W' x (hb.trans (hb'.mono hb.size))
theorem impl_CablesValid.rd_mem (l : List S44) (i : Int) (h0 : 0 ≤ i) (h : i < (l.length : Int)) : rd_T44 l i ∈ l := by
 obtain ⟨n, rfl⟩ := Int.eq_ofNat_of_zero_le h0
 have hn : n < l.length := by omega
 have e : rd_T44 l (n : Int) = l[n] := by simp [rd_T44, List.getD_eq_getElem?_getD, hn]
 rw [e]
 exact List.getElem_mem _
theorem impl_CablesValid.take_any {l : List S44} {p : S44 → Bool} {x : Int} (h0 : 0 ≤ x) (h1 : x < (l.length : Int)) : (l.take (x + 1).toNat).any p = ((l.take x.toNat).any p || p (rd_T44 l x)) := by
 obtain ⟨n, rfl⟩ := Int.eq_ofNat_of_zero_le h0
 have hn : n < l.length := by omega
 have e : ((n : Int) + 1).toNat = n + 1 := by omega
 have e2 : rd_T44 l (n : Int) = l[n] := by simp [rd_T44, List.getD_eq_getElem?_getD, hn]
 rw [e, e2, Int.toNat_natCast, List.take_succ_eq_append_getElem hn, List.any_append]
 simp
set_option maxHeartbeats 4000000 in
theorem impl_CablesValid.idx (p : S44 → Bool) (g : Nat) (lb : Array Value) (eg : ∀ args w, (callFunc g args).run Try.prog w = .ok (.enter g args) w) (A : Option Addr) (c : Nat) (l : List S44) (w : World)
  (hp : impl_CablesValid.Pred g lb p w) (hr : Kd.C k44 w A l.length l) :
  Calls Try.prog 121 #[.slice A l.length c, .func (.func g) #[] lb] w (impl_CablesValid.SomeIdx (l.any p) w) := by
 have hlen : l.length ≤ 9223372036854775807 := hr.2.1
 have HR := Aside0.mk hr
 have HP := Aside0.mk hp
 clear hr hp
 have HB := Aside0.mk (Below.refl w.heap.size w)
 go_enter Try.func121, Try.ntmps121
 go_wp2
 go_loopg [5, 8] l.length (fun gg _ s8 wr => ∃ x : Int, s8 = .int .i64 x ∧ Aside0 (0 ≤ x ∧ x ≤ (l.length : Int) ∧ (l.length : Int) - x ≤ gg) ∧ Aside0 (Below w.heap.size w wr) ∧ Aside0 ((l.take x.toNat).any p = false))
 case atStart => exact ⟨0, rfl, ⟨⟨by omega, by omega, by omega⟩⟩, HB, ⟨by simp⟩⟩
 case round =>
  clear HB
  obtain ⟨x, rfl, HX, HB, HA⟩ := hrel
  have hx0 := HX.out.1
  have hx1 := HX.out.2.1
  by_cases hlt : x < (l.length : Int)
  ·have c0 : decide (0 ≤ x) = true := decide_eq_true hx0
   have c1 : decide (x < (l.length : Int)) = true := decide_eq_true hlt
   obtain ⟨ad, e0, hk0, hk1, hk2⟩ := at_T44 (Kd.C_below HR.out HB.out) x hx0 hlt
   cases e0
   have hcall := HP.out _ (rd_T44 l x) HB.out
   have HT := Aside0.mk (impl_CablesValid.take_any (p := p) hx0 hlt)
   have HM := Aside0.mk (impl_CablesValid.rd_mem l x hx0 hlt)
   generalize rd_T44 l x = y at hk0 hk1 hk2 hcall HT HM
   cases hq : p y with
   | true =>
    rw [hq] at hcall
    have HQ := Aside0.mk hq
    clear hq
    go_wp2_with fail
    refine hcall.mono ?_
    clear hcall
    rintro e w' ⟨rfl, hb'⟩
    go_wp2_with fail
    go_ret
    refine ⟨x, rfl, ?_, (HB.out).trans (hb'.mono HB.out.size)⟩
    rw [c0]
    symm
    rw [List.any_eq_true]
    exact ⟨y, HM.out, HQ.out⟩
   | false =>
    rw [hq] at hcall
    have HQ := Aside0.mk hq
    clear hq
    go_wp2_with fail
    refine hcall.mono ?_
    clear hcall
    rintro e w' ⟨rfl, hb'⟩
    go_wp2_with fail
    go_roundg ((l.length : Int) - (x + 1)).toNat
    case measure => have := HX.out; omega
    case rel =>
     refine ⟨x + 1, by go_num, ⟨⟨by omega, by omega, by omega⟩⟩, ⟨(HB.out).trans (hb'.mono HB.out.size)⟩, ⟨?_⟩⟩
     rw [HT.out, HA.out, HQ.out]; rfl
  ·have c1 : decide (x < (l.length : Int)) = false := decide_eq_false hlt
   go_wp2
   go_ret
   refine ⟨-1, rfl, ?_, HB.out⟩
   have : x.toNat = l.length := by omega
   have h := HA.out
   rw [this, List.take_length] at h
   rw [h]; rfl
set_option maxHeartbeats 4000000 in
theorem impl_CablesValid.cont (p : S44 → Bool) (g : Nat) (lb : Array Value) (eg : ∀ args w, (callFunc g args).run Try.prog w = .ok (.enter g args) w) (A : Option Addr) (c : Nat) (l : List S44) (w : World)
  (hp : impl_CablesValid.Pred g lb p w) (hr : Kd.C k44 w A l.length l) :
  Calls Try.prog 98 #[.slice A l.length c, .func (.func g) #[] lb] w fun e w' => e = .returned (.bool (l.any p)) ∧ Below w.heap.size w w' := by
 have hcall := impl_CablesValid.idx p g lb eg A c l w hp hr
 clear hp hr
 generalize l.any p = b at hcall ⊢
 go_enter Try.func98, Try.ntmps98
 go_wp2_with fail
 refine hcall.mono ?_
 clear hcall eg
 rintro e w' ⟨z, rfl, hz, hb⟩
 have HZ := Aside0.mk hz
 have HBB := Aside0.mk hb
 clear hz hb
 go_wp2_with fail
 go_ret
 exact ⟨by simp; exact HZ.out, HBB.out⟩
set_option maxHeartbeats 4000000 in
theorem impl_CablesValid.not (p : S44 → Bool) (g : Nat) (lb : Array Value) (eg : ∀ args w, (callFunc g args).run Try.prog w = .ok (.enter g args) w) (B : Nat) (w : World)
  (hp : impl_CablesValid.Pred g lb p w) (hB : B < w.heap.size) (hc : w.cell? ⟨B, 0, none⟩ = some (.func (.func g) #[] lb)) :
  impl_CablesValid.Pred 99 #[.pointer (some ⟨B, 0, none⟩)] (fun x => !p x) w := by
 intro W x hb
 have hcall := fun W' (h : Below W.heap.size W W') => hp W' x (hb.trans (h.mono hb.size))
 have hc' : W.cell? ⟨B, 0, none⟩ = some (.func (.func g) #[] lb) := (hb.cell (p := ⟨B, 0, none⟩) hB).trans hc
 have hBW : B < W.heap.size := Nat.lt_of_lt_of_le hB hb.size
 have hc2 : ∀ o, (W.alloc o).cell? ⟨B, 0, none⟩ = some (.func (.func g) #[] lb) := fun o => by rw [World.cell?_alloc_past _ _ _ hBW]; exact hc'
 clear hp hc hb hB
 show Calls Try.prog 99 #[.agg #[.int .i64 x.f0, .int .i64 x.f1, .int .i64 x.f2], .pointer (some ⟨B, 0, none⟩)] W fun e w' => e = .returned (.bool (!p x)) ∧ Below W.heap.size W w'
 obtain ⟨y, hy⟩ : ∃ y : Value, y = .agg #[.int .i64 x.f0, .int .i64 x.f1, .int .i64 x.f2] := ⟨_, rfl⟩
 generalize p x = b at hcall ⊢
 clear hy
 have HC := Aside0.mk hcall
 clear hcall
 go_enter Try.func99, Try.ntmps99
 go_wp2_with fail
 refine (HC.out _ (below_alloc (Below.refl _ _) _)).mono ?_
 clear HC eg
 rintro e w' ⟨rfl, hb⟩
 have HBB := Aside0.mk (below_then (below_alloc (Below.refl W.heap.size W) _) (by simp) hb)
 clear hb
 go_wp2_with fail
 go_ret
 exact ⟨rfl, HBB.out⟩
set_option maxHeartbeats 4000000 in
theorem impl_CablesValid.all (p : S44 → Bool) (g : Nat) (lb : Array Value) (eg : ∀ args w, (callFunc g args).run Try.prog w = .ok (.enter g args) w) (A : Option Addr) (c : Nat) (l : List S44) (w : World)
  (hp : impl_CablesValid.Pred g lb p w) (hr : Kd.C k44 w A l.length l) :
  Calls Try.prog 72 #[.slice A l.length c, .func (.func g) #[] lb] w fun e w' => e = .returned (.bool (l.all p)) ∧ Below w.heap.size w w' := by
 have hb1 : Below w.heap.size w (w.alloc (.cells #[.func (.func g) #[] lb] 75)) := below_alloc (Below.refl _ _) _
 have e1 : ∀ args w, (callFunc 99 args).run Try.prog w = .ok (.enter 99 args) w := enters_of Try.func99 (by kernel_rfl) rfl
 have hcall := impl_CablesValid.cont (fun x => !p x) 99 #[.pointer (some ⟨w.heap.size, 0, none⟩)] e1 A c l (w.alloc (.cells #[.func (.func g) #[] lb] 75))
  (impl_CablesValid.not p g lb eg w.heap.size _ (hp.later hb1) (by simp) (by simp)) (Kd.C_below hr hb1)
 have e2 : (l.any fun x => !p x) = !(l.all p) := by rw [List.not_all_eq_any_not]
 rw [e2] at hcall
 have HB1 := Aside0.mk hb1
 clear hp hr e1 e2 hb1
 generalize l.all p = b at hcall ⊢
 go_enter Try.func72, Try.ntmps72
 go_wp2_with fail
 refine hcall.mono ?_
 clear hcall eg
 rintro e w' ⟨rfl, hb⟩
 have HBB := Aside0.mk hb
 clear hb
 go_wp2_with fail
 go_ret
 exact ⟨by simp, HB1.out.trans (HBB.out.mono HB1.out.size)⟩
def impl_CablesValid.inB (a b c : Int) : Bool := decide (b ≤ a ∧ a ≤ c)
theorem impl_CablesValid.within (a b c : Int) (w : World) : Calls Try.prog 70 #[.int .i64 a, .int .i64 b, .int .i64 c] w fun e w' => e = .returned (.bool (impl_CablesValid.inB a b c)) ∧ Drawn0 w w' :=
 impl_within.calls a b c _ w (by unfold impl_within.f impl_CablesValid.inB; by_cases h : b ≤ a <;> simp [h])
set_option maxHeartbeats 4000000 in
theorem impl_CablesValid.pred (a0 : Int) (h0 : 1 ≤ a0) (h1 : a0 ≤ 8) (B : Nat) (w : World) (hB : B < w.heap.size) (hc : w.cell? ⟨B, 0, none⟩ = some (.int .i64 a0)) :
  impl_CablesValid.Pred 73 #[.pointer (some ⟨B, 0, none⟩)] (fun x => impl_CablesValid.inB x.f0 0 (a0 - 1) && (impl_CablesValid.inB x.f1 0 (a0 - 1) && (!(x.f0 == x.f1) && impl_CablesValid.inB x.f2 1 99))) w := by
 intro W x hb
 have hc' : W.cell? ⟨B, 0, none⟩ = some (.int .i64 a0) := (hb.cell (p := ⟨B, 0, none⟩) hB).trans hc
 have hBW : B < W.heap.size := Nat.lt_of_lt_of_le hB hb.size
 have hc2 : ∀ o, (W.alloc o).cell? ⟨B, 0, none⟩ = some (.int .i64 a0) := fun o => by rw [World.cell?_alloc_past _ _ _ hBW]; exact hc'
 clear hc hb hB
 obtain ⟨x0, x1, x2⟩ := x
 show Calls Try.prog 73 #[.agg #[.int .i64 x0, .int .i64 x1, .int .i64 x2], .pointer (some ⟨B, 0, none⟩)] W fun e w' => e = .returned (.bool (impl_CablesValid.inB x0 0 (a0 - 1) && (impl_CablesValid.inB x1 0 (a0 - 1) && (!(x0 == x1) && impl_CablesValid.inB x2 1 99)))) ∧ Below W.heap.size W w'
 have HBW := Aside0.mk (below_alloc (Below.refl W.heap.size W) (.cells #[.int .i64 x0, .int .i64 x1, .int .i64 x2] 44))
 cases q0 : impl_CablesValid.inB x0 0 (a0 - 1) with
 | false =>
  go_enter Try.func73, Try.ntmps73
  go_wp2_with (first | (go_at_call 70; refine (impl_CablesValid.within _ _ _ _).mono ?_; rintro e w' ⟨rfl, ⟨nd, rfl⟩⟩))
  go_ret
  exact ⟨rfl, bw HBW.out⟩
 | true =>
  cases q1 : impl_CablesValid.inB x1 0 (a0 - 1) with
  | false =>
   go_enter Try.func73, Try.ntmps73
   go_wp2_with (first | (go_at_call 70; refine (impl_CablesValid.within _ _ _ _).mono ?_; rintro e w' ⟨rfl, ⟨nd, rfl⟩⟩))
   go_ret
   exact ⟨rfl, bw HBW.out⟩
  | true =>
   cases q2 : (x0 == x1) with
   | true =>
    have q3 : (x0 != x1) = false := by simp [bne, q2]
    go_enter Try.func73, Try.ntmps73
    go_wp2_with (first | (go_at_call 70; refine (impl_CablesValid.within _ _ _ _).mono ?_; rintro e w' ⟨rfl, ⟨nd, rfl⟩⟩))
    go_ret
    exact ⟨rfl, bw HBW.out⟩
   | false =>
    have q3 : (x0 != x1) = true := by simp [bne, q2]
    generalize q4 : impl_CablesValid.inB x2 1 99 = b2
    go_enter Try.func73, Try.ntmps73
    go_wp2_with (first | (go_at_call 70; refine (impl_CablesValid.within _ _ _ _).mono ?_; rintro e w' ⟨rfl, ⟨nd, rfl⟩⟩))
    go_ret
    exact ⟨rfl, bw HBW.out⟩
set_option maxHeartbeats 4000000 in
theorem impl_CablesValid.calls (a0 : Int) (A1 : Option Addr) (c1 : Nat) (l1 : List (S44)) (r : Bool) (w : World) (hr1 : Kd.C k44 w A1 l1.length l1) (hc1 : l1.length ≤ c1) (h : impl_CablesValid.f a0 l1 = some r) :
  Calls Try.prog 35 #[.int .i64 a0, .slice A1 l1.length c1] w fun e w' => e = .returned (.bool r) ∧ Below w.heap.size w w' := by
 have e1 : ∀ args w, (callFunc 73 args).run Try.prog w = .ok (.enter 73 args) w := enters_of Try.func73 (by kernel_rfl) rfl
 unfold impl_CablesValid.f at h
 obtain rfl := Option.some.inj h
 clear h
 have hb1 : Below w.heap.size w (w.alloc (.cells #[.int .i64 a0] 3)) := below_alloc (Below.refl _ _) _
 have HB1 := Aside0.mk hb1
 by_cases p1 : 1 ≤ a0 ∧ a0 ≤ 8
 ·obtain ⟨h0, h1⟩ := p1
  have q0 : impl_CablesValid.inB a0 1 8 = true := decide_eq_true ⟨h0, h1⟩
  rw [show decide (1 ≤ a0 ∧ a0 ≤ 8) = true from q0, Bool.true_and]
  by_cases p2 : (l1.length : Int) ≤ 20
  ·have c2 : decide ((l1.length : Int) ≤ 20) = true := decide_eq_true p2
   have c3 : l1.length ≤ 20 := by omega
   rw [c2, Bool.true_and]
   have hall := fun nd => impl_CablesValid.all _ 73 #[.pointer (some ⟨w.heap.size, 0, none⟩)] e1 A1 c1 l1 ((w.alloc (.cells #[.int .i64 a0] 3)).drewN nd) (impl_CablesValid.pred a0 h0 h1 w.heap.size _ (by simp) (by simp)) (Kd.C_drewN (Kd.C_below hr1 hb1) nd)
   have HALL := Aside0.mk hall
   clear hall hb1 e1 hr1 hc1
   have HX := Aside0.mk (show (l1.all fun x => impl_CablesValid.inB x.f0 0 (a0 - 1) && (impl_CablesValid.inB x.f1 0 (a0 - 1) && (!(x.f0 == x.f1) && impl_CablesValid.inB x.f2 1 99))) = (l1.all (fun x => decide (0 ≤ x.f0 ∧ x.f0 ≤ a0 - 1) && (decide (0 ≤ x.f1 ∧ x.f1 ≤ a0 - 1) && (!(x.f0 == x.f1) && decide (1 ≤ x.f2 ∧ x.f2 ≤ 99))))) from rfl)
   generalize (l1.all (fun x => decide (0 ≤ x.f0 ∧ x.f0 ≤ a0 - 1) && (decide (0 ≤ x.f1 ∧ x.f1 ≤ a0 - 1) && (!(x.f0 == x.f1) && decide (1 ≤ x.f2 ∧ x.f2 ≤ 99))))) = b at HX ⊢
   rw [HX.out] at HALL
   clear HX p2
   go_enter Try.func35, Try.ntmps35
   go_wp2_with (first | (go_at_call 70; refine (impl_CablesValid.within _ _ _ _).mono ?_; rintro e w' ⟨rfl, ⟨nd, rfl⟩⟩))
   refine (HALL.out _).mono ?_
   clear HALL
   rintro e w' ⟨rfl, hb⟩
   have HB2 := Aside0.mk (below_then (pw_below_drewN HB1.out _) (by simp) hb)
   clear hb
   go_wp2_with fail
   go_ret
   exact ⟨rfl, HB2.out⟩
  ·have c2 : decide ((l1.length : Int) ≤ 20) = false := decide_eq_false p2
   have c3 : ¬ l1.length ≤ 20 := by omega
   rw [c2]
   clear hr1 hc1 hb1
   go_enter Try.func35, Try.ntmps35
   go_wp2_with (first | (go_at_call 70; refine (impl_CablesValid.within _ _ _ _).mono ?_; rintro e w' ⟨rfl, ⟨nd, rfl⟩⟩))
   go_ret
   exact ⟨rfl, bw HB1.out⟩
 ·have q0 : impl_CablesValid.inB a0 1 8 = false := decide_eq_false p1
  rw [show decide (1 ≤ a0 ∧ a0 ≤ 8) = false from q0]
  clear hr1 hc1 hb1 p1
  go_enter Try.func35, Try.ntmps35
  go_wp2_with (first | (go_at_call 70; refine (impl_CablesValid.within _ _ _ _).mono ?_; rintro e w' ⟨rfl, ⟨nd, rfl⟩⟩))
  go_ret
  exact ⟨rfl, bw HB1.out⟩

end Go.Proofs.Ytegnghbgkiddoaa.PA
