-- Laid by this session's own program (pr.py) over the translation; Lean checks it.
import Derived.Test.YtegnghbgkiddoaaPA0
import Derived.Test.YtegnghbgkiddoaaPA6
import Derived.Test.YtegnghbgkiddoaaHSq
namespace Go.Proofs.Ytegnghbgkiddoaa.PA
open Go.RowKit Go.Proofs.YtegnghbgkiddoaaW.PrintWords Go.Proofs.YtegnghbgkiddoaaW.PrintLast Go.Proofs.YtegnghbgkiddoaaW.PrintMore
attribute [local go_sem] max2_int min2_int max_two min_two max_three min_three max_four min_four   -- for this text's walks alone
set_option linter.unusedVariables false
set_option linter.unusedSimpArgs false

/-! ### spec_l7Costs: function 63 -/
-- IMPORT HSq
mutual
def spec_l7Costs.l0 : Nat → Int → List (S44) → List Int → Int → Option (List Int)
 | 0, _, _, _, _ => none
 | k + 1, x0, x1, x5, x6 => if x6 < x0 then ((spec_l7Root.f k x0 x1 x6).bind fun t130 => (if t130 = x6 then (if x5.length < 17592186044416 then (spec_l7Costs.l0 k x0 x1 (x5 ++ [0]) (wrap64 (x6 + 1))) else (none)) else (if x5.length < 17592186044416 then (spec_l7Costs.l0 k x0 x1 (x5 ++ [10000]) (wrap64 (x6 + 1))) else (none)))) else (spec_l7Costs.l1 k x1 x5 x0 0)
def spec_l7Costs.l1 : Nat → List (S44) → List Int → Int → Int → Option (List Int)
 | 0, _, _, _, _ => none
 | k + 1, x1, x5, x27, x28 => if x28 < x27 then (spec_l7Costs.l2 k x1 x5 0 x27 x28) else (some x5)
def spec_l7Costs.l2 : Nat → List (S44) → List Int → Int → Int → Int → Option (List Int)
 | 0, _, _, _, _, _ => none
 | k + 1, x1, x5, x7, x27, x28 => if x7 < (x1.length : Int) then (if 0 ≤ x7 then (if 0 ≤ ((rd_T44 x1 x7).f0) then (if ((rd_T44 x1 x7).f0) < (x5.length : Int) then (if 0 ≤ ((rd_T44 x1 x7).f1) then (if ((rd_T44 x1 x7).f1) < (x5.length : Int) then ((some (x5.set (((rd_T44 x1 x7).f0) : Int).toNat (mn (rd x5 ((rd_T44 x1 x7).f0)) (wrap64 ((rd x5 ((rd_T44 x1 x7).f1)) + ((rd_T44 x1 x7).f2)))) : List Int)).bind fun y141 => (spec_l7Costs.l2 k x1 (y141.set (((rd_T44 x1 x7).f1) : Int).toNat (mn (rd y141 ((rd_T44 x1 x7).f1)) (wrap64 ((rd y141 ((rd_T44 x1 x7).f0)) + ((rd_T44 x1 x7).f2))))) (wrap64 (x7 + 1)) x27 x28)) else (none)) else (none)) else (none)) else (none)) else (none)) else (spec_l7Costs.l1 k x1 x5 x27 (wrap64 (x28 + 1)))
end
def spec_l7Costs.f (k : Nat) (a0 : Int) (l1 : List (S44)) : Option (List Int) := spec_l7Costs.l0 k a0 l1 (([] : List Int)) 0
def spec_l7Costs.T14 : Bool × List (List Nat × List Nat) := (true, [([], []), ([], []), ([1], [1]), ([], []), ([], []), ([4], [4]), ([3, 5], [3, 5]), ([6], [6]), ([], []), ([], []), ([9], [9]), ([8, 10], [8, 10]), ([11], [11]), ([], []), ([13], [13]), ([12, 14], [12, 14]), ([7, 15], [7, 15]), ([0, 2, 0, 1, 2, 3, 4, 5, 6, 7, 8, 9, 10, 11, 12, 13, 14, 15, 16], [0, 2]), ([17, 16, 0, 1, 2, 3, 4, 5, 6, 7, 8, 9, 10, 11, 12, 13, 14, 15, 16], [16, 17])])
def spec_l7Costs.B14 : List Nat := [0, 0, 2, 0, 0, 16, 56, 120, 0, 0, 512, 1792, 3840, 0, 8192, 32512, 65528, 131071, 262143]
theorem spec_l7Costs.tab14 : rtab .any (opsOf Try.f63 14) = spec_l7Costs.T14 := by kernel_rfl
theorem spec_l7Costs.bits14 : waitsOk spec_l7Costs.T14.2 spec_l7Costs.B14 = true := by kernel_rfl
def spec_l7Costs.T15 : Bool × List (List Nat × List Nat) := (true, [([], []), ([], []), ([1], [1]), ([], []), ([], []), ([4], [4]), ([3, 5], [3, 5]), ([6], [6]), ([], []), ([], []), ([9], [9]), ([8, 10], [8, 10]), ([11], [11]), ([], []), ([13], [13]), ([12, 14], [12, 14]), ([7, 15], [7, 15]), ([0, 2, 0, 1, 2, 3, 4, 5, 6, 7, 8, 9, 10, 11, 12, 13, 14, 15, 16], [0, 2]), ([17, 16, 0, 1, 2, 3, 4, 5, 6, 7, 8, 9, 10, 11, 12, 13, 14, 15, 16], [16, 17])])
def spec_l7Costs.B15 : List Nat := [0, 0, 2, 0, 0, 16, 56, 120, 0, 0, 512, 1792, 3840, 0, 8192, 32512, 65528, 131071, 262143]
theorem spec_l7Costs.tab15 : rtab .any (opsOf Try.f63 15) = spec_l7Costs.T15 := by kernel_rfl
theorem spec_l7Costs.bits15 : waitsOk spec_l7Costs.T15.2 spec_l7Costs.B15 = true := by kernel_rfl
set_option maxHeartbeats 8000000 in
set_option maxRecDepth 100000 in
theorem spec_l7Costs.calls (k : Nat) (a0 : Int) (A1 : Option Addr) (c1 : Nat) (l1 : List (S44)) (r : List Int) (w : World) (hr1 : Kd.C k44 w A1 l1.length l1) (hc1 : l1.length ≤ c1) (h : spec_l7Costs.f k a0 l1 = some r) :
  Calls Try.prog 63 #[.int .i64 a0, .slice A1 l1.length c1] w fun e w' => ∃ v0_ : Value, e = .returned (v0_) ∧ Kd.R (Kd.int .i64) 3 w' w.heap.size (fun _ => True) v0_ r ∧ Below w.heap.size w w' := by
 have hu44 := Try.underlying44
 have HR1 := Aside0.mk hr1
 have HC1 := Aside0.mk hc1
 clear hr1 hc1
 have HB := Aside0.mk (Below.refl w.heap.size w)
 have H : (spec_l7Costs.l0 k a0 l1 (([] : List Int)) 0) = some r := h
 clear h
 obtain ⟨y127, hy127⟩ : ∃ y_ : List Int, y_ = (([] : List Int)) := ⟨_, rfl⟩
 replace H : (spec_l7Costs.l0 k a0 l1 y127 0) = some r := by first | (rw [hy127]; with_reducible exact H) | (have H2_ := (Option.bind_some _ _).symm.trans H; rw [hy127]; with_reducible exact H2_) | (have H2_ := (Option.bind_some _ _).symm.trans H; with_reducible exact H2_) | with_reducible exact H | (rw [hy127]; exact H) | exact H
 have Ny127 := Aside0.mk hy127
 clear hy127
 have H' := Aside0.mk H
 clear H
 go_enter Try.func63, Try.ntmps63
 go_wp2_with (first | ((with_reducible refine gate_dst (N := 9) rfl ?_); refine Kd.R_lit (Kd.int .i64) _ 3 ?hg (N := 9) ?hd (xs := ([] : List Int)) (inner := []) (ok := fun _ => True) (okp := fun _ => True) ?hr ?hp (fun _ hk => hk) trivial (Below.refl _ _) (Nat.le_refl _) (by simp) ?_; (case hd => rfl); (case hg => rfl); (case hr => first | (go_simp; done) | (go_simp; rfl)); (case hp => exact (Reps.none _ _)); intro v128 w3 ho4 hb hg_ hnew_; clear hg_ hnew_; (first | rw [← Ny127.out] at ho4 | (simp only [Int.reduceToNat] at ho4; rw [← Ny127.out] at ho4)); have n0_ := Aside0.mk (Kd.R_lower ho4 (below_size (bw HB.out))); have n1_ := Aside0.mk (below_step (bw HB.out) hb); clear HB; have HO129 := n0_; have HB := n1_; clear n0_ n1_; clear hb ho4))
 go_loopg [5, 6] k (fun kq v5 v6 w' => ∃ (x5_1 : List Int) (x6_1 : Int), v6 = .int .i64 x6_1 ∧ Aside0 (spec_l7Costs.l0 kq a0 l1 x5_1 x6_1 = some r) ∧ Aside0 (kq ≤ k) ∧ Aside0 (Kd.R (Kd.int .i64) 3 w' w.heap.size (fun _ => True) v5 x5_1) ∧ Aside0 (Below w.heap.size w w'))
 case atStart => exact ⟨(y127), (0), fs, H', ⟨Nat.le_refl _⟩, ⟨ru HO129.out⟩, ⟨bw HB.out⟩⟩
 case round =>
  clear H'
  try clear c1
  try clear p2
  obtain ⟨x5_1, x6_1, rfl, HA, HK1, HO_5, HB⟩ := hrel
  cases gk with
  | zero => exact absurd HA.out (by simp [spec_l7Costs.l0])
  | succ k1 =>
   have H := HA.out
   clear HA
   simp only [spec_l7Costs.l0] at H
   by_cases c5 : x6_1 < a0
   ·rw [if_pos c5] at H
    have c5b0 : decide (x6_1 < a0) = true := decide_eq_true c5
    clear c5
    replace H := Option.bind_eq_some_iff.mp H
    obtain ⟨t130, A60, H⟩ := H
    try dsimp only at H
    have A6 := Aside0.mk A60
    clear A60
    by_cases c7 : t130 = x6_1
    ·rw [if_pos c7] at H
     have c7b0 : (t130 == x6_1) = true := beq_iff_eq.mpr c7
     have c7b1 : (t130 != x6_1) = false := bne_eq_false_iff_eq.mpr c7
     clear c7
     by_cases c8 : x5_1.length < 17592186044416
     ·rw [if_pos c8] at H
      have LMc8 := Aside0.mk c8
      clear c8
      obtain ⟨y131, hy131⟩ : ∃ y_ : List Int, y_ = (x5_1 ++ [0]) := ⟨_, rfl⟩
      replace H : (spec_l7Costs.l0 k1 a0 l1 y131 (wrap64 (x6_1 + 1))) = some r := by first | (rw [hy131]; with_reducible exact H) | (have H2_ := (Option.bind_some _ _).symm.trans H; rw [hy131]; with_reducible exact H2_) | (have H2_ := (Option.bind_some _ _).symm.trans H; with_reducible exact H2_) | with_reducible exact H | (rw [hy131]; exact H) | exact H
      have Ny131 := Aside0.mk hy131
      clear hy131
      have H' := Aside0.mk H
      clear H
      go_wp2_with (first | ((with_reducible refine gate_callee (f := 83) rfl ?_); refine goesL_ (some 18) rfl rfl Try.func83 (by kernel_rfl) rfl #[.int .i64 a0, .slice A1 l1.length c1, .int .i64 x6_1] rfl (by (try simp only [List.map_toArray, List.map_cons, List.map_nil]); first | done | rfl | (simp only [List.length_drop, List.length_take]; rfl)) ?_; (with_reducible refine (spec_l7Root.calls k1 a0 _ _ l1 x6_1 t130 _ ?side1 ?side2 A6.out).mono ?_); (case side1 => repeat (first | exact (Kd.C_below HR1.out HB.out) | (with_reducible refine Kd.C_alloc ?_ _) | (with_reducible refine Kd.C_drewN ?_ _) | (with_reducible refine Kd.C_drew ?_))); (case side2 => exact HC1.out); rintro e w9 ⟨rfl, hb⟩; refine ⟨_, rfl, ?_⟩; have n0_ := Aside0.mk (Kd.R_below (ru HO_5.out) hb); have n1_ := Aside0.mk (below_step (bw HB.out) hb); clear HO_5; clear HB; have HO_5 := n0_; have HB := n1_; clear n0_ n1_; (try clear hb); (try clear hb2); (try clear hk); (try clear hi)) | ((with_reducible refine gate_builtin (b := .append) (xs := #[.tmp 21, .tmp 22]) rfl ?_); at_builtin; refine Kd.R_append (Kd.int .i64) (w0 := w) w.heap.size rfl (.tmp 21) (.tmp 22) 24 3 (.int .i64 0) 8 rfl Try.underlying24 info3 rfl (by decide) (by omega) u5 x5_1 0 [.int .i64 0] (fun _ => True) (fun _ => False) rfl rfl ?aP (fun _ hk => hk.elim) ?aF ?aO ?aB ?aS ?aL ?_; (case aP => exact rfl); (case aB => exact (bw HB.out)); (case aF => exact (fun _ _ => trivial)); (case aO => exact (ru HO_5.out)); (case aS => exact (below_size (bw HB.out))); (case aL => have := LMc8.out; omega); intro v132 w10 ho hb hg hat; rw [← Ny131.out] at ho; have n0_ := Aside0.mk (hb); have n1_ := Aside0.mk (ho); clear HB; clear HO_5; have HB := n0_; have HO133 := n1_; clear n0_ n1_; clear ho hb hg hat))
      go_roundg k1
      case measure => have := HK1.out; omega
      case rel => exact ⟨(y131), (wrap64 (x6_1 + 1)), fs, H', ⟨by have := HK1.out; omega⟩, ⟨ru HO133.out⟩, ⟨bw HB.out⟩⟩
     ·rw [if_neg c8] at H
      exact absurd H (by simp)
    ·rw [if_neg c7] at H
     have c7b0 : (t130 == x6_1) = false := beq_eq_false_iff_ne.mpr c7
     have c7b1 : (t130 != x6_1) = true := bne_iff_ne.mpr c7
     by_cases c11 : x5_1.length < 17592186044416
     ·rw [if_pos c11] at H
      have LMc11 := Aside0.mk c11
      clear c11
      obtain ⟨y134, hy134⟩ : ∃ y_ : List Int, y_ = (x5_1 ++ [10000]) := ⟨_, rfl⟩
      replace H : (spec_l7Costs.l0 k1 a0 l1 y134 (wrap64 (x6_1 + 1))) = some r := by first | (rw [hy134]; with_reducible exact H) | (have H2_ := (Option.bind_some _ _).symm.trans H; rw [hy134]; with_reducible exact H2_) | (have H2_ := (Option.bind_some _ _).symm.trans H; with_reducible exact H2_) | with_reducible exact H | (rw [hy134]; exact H) | exact H
      have Ny134 := Aside0.mk hy134
      clear hy134
      have H' := Aside0.mk H
      clear H
      go_wp2_with (first | ((with_reducible refine gate_callee (f := 83) rfl ?_); refine goesL_ (some 18) rfl rfl Try.func83 (by kernel_rfl) rfl #[.int .i64 a0, .slice A1 l1.length c1, .int .i64 x6_1] rfl (by (try simp only [List.map_toArray, List.map_cons, List.map_nil]); first | done | rfl | (simp only [List.length_drop, List.length_take]; rfl)) ?_; (with_reducible refine (spec_l7Root.calls k1 a0 _ _ l1 x6_1 t130 _ ?side1 ?side2 A6.out).mono ?_); (case side1 => repeat (first | exact (Kd.C_below HR1.out HB.out) | (with_reducible refine Kd.C_alloc ?_ _) | (with_reducible refine Kd.C_drewN ?_ _) | (with_reducible refine Kd.C_drew ?_))); (case side2 => exact HC1.out); rintro e w12 ⟨rfl, hb⟩; refine ⟨_, rfl, ?_⟩; have n0_ := Aside0.mk (Kd.R_below (ru HO_5.out) hb); have n1_ := Aside0.mk (below_step (bw HB.out) hb); clear HO_5; clear HB; have HO_5 := n0_; have HB := n1_; clear n0_ n1_; (try clear hb); (try clear hb2); (try clear hk); (try clear hi)) | ((with_reducible refine gate_builtin (b := .append) (xs := #[.tmp 24, .tmp 25]) rfl ?_); at_builtin; refine Kd.R_append (Kd.int .i64) (w0 := w) w.heap.size rfl (.tmp 24) (.tmp 25) 24 3 (.int .i64 0) 8 rfl Try.underlying24 info3 rfl (by decide) (by omega) u5 x5_1 10000 [.int .i64 10000] (fun _ => True) (fun _ => False) rfl rfl ?aP (fun _ hk => hk.elim) ?aF ?aO ?aB ?aS ?aL ?_; (case aP => exact rfl); (case aB => exact (bw HB.out)); (case aF => exact (fun _ _ => trivial)); (case aO => exact (ru HO_5.out)); (case aS => exact (below_size (bw HB.out))); (case aL => have := LMc11.out; omega); intro v135 w13 ho hb hg hat; rw [← Ny134.out] at ho; have n0_ := Aside0.mk (hb); have n1_ := Aside0.mk (ho); clear HB; clear HO_5; have HB := n0_; have HO136 := n1_; clear n0_ n1_; clear ho hb hg hat))
      go_roundg k1
      case measure => have := HK1.out; omega
      case rel => exact ⟨(y134), (wrap64 (x6_1 + 1)), fs, H', ⟨by have := HK1.out; omega⟩, ⟨ru HO136.out⟩, ⟨bw HB.out⟩⟩
     ·rw [if_neg c11] at H
      exact absurd H (by simp)
   ·rw [if_neg c5] at H
    have c5b0 : decide (x6_1 < a0) = false := decide_eq_false c5
    clear c5
    have H' := Aside0.mk H
    clear H
    go_wp2
    go_loopg [28] k1 (fun kq v28 w' => ∃ (x5_2 : List Int) (x28_2 : Int), v28 = .int .i64 x28_2 ∧ Aside0 (spec_l7Costs.l1 kq l1 x5_2 a0 x28_2 = some r) ∧ Aside0 (kq ≤ k1) ∧ Aside0 (Kd.R (Kd.int .i64) 3 w' w.heap.size (fun _ => True) u5 x5_2) ∧ Aside0 (Below w.heap.size w w'))
    case atStart => exact ⟨(x5_1), (0), fs, H', ⟨Nat.le_refl _⟩, ⟨ru HO_5.out⟩, ⟨bw HB.out⟩⟩
    case round =>
     clear H'
     try clear c1
     try clear p2
     try clear c5
     try clear c5b0
     try clear c6
     try clear p6
     try clear c7
     try clear c7b0
     try clear c7b1
     try clear c8
     try clear c11
     try clear p2
     obtain ⟨x5_2, x28_2, rfl, HA, HK2, HO_5, HB⟩ := hrel
     cases gk with
     | zero => exact absurd HA.out (by simp [spec_l7Costs.l1])
     | succ k2 =>
      have H := HA.out
      clear HA
      simp only [spec_l7Costs.l1] at H
      by_cases c14 : x28_2 < a0
      ·rw [if_pos c14] at H
       have c14b0 : decide (x28_2 < a0) = true := decide_eq_true c14
       clear c14
       have H' := Aside0.mk H
       clear H
       go_wp2
       go_loopg [7] k2 (fun kq v7 w' => ∃ (x5_3 : List Int) (x7_3 : Int), v7 = .int .i64 x7_3 ∧ Aside0 (spec_l7Costs.l2 kq l1 x5_3 x7_3 a0 x28_2 = some r) ∧ Aside0 (kq ≤ k2) ∧ Aside0 (Kd.R (Kd.int .i64) 3 w' w.heap.size (fun _ => True) u5 x5_3) ∧ Aside0 (Below w.heap.size w w'))
       case atStart => exact ⟨(x5_2), (0), fs, H', ⟨Nat.le_refl _⟩, ⟨ru HO_5.out⟩, ⟨bw HB.out⟩⟩
       case round =>
        clear H'
        try clear c1
        try clear p2
        try clear c5
        try clear c5b0
        try clear c6
        try clear p6
        try clear c7
        try clear c7b0
        try clear c7b1
        try clear c8
        try clear c11
        try clear c14
        try clear c14b0
        try clear p2
        try clear p6
        obtain ⟨x5_3, x7_3, rfl, HA, HK3, HO_5, HB⟩ := hrel
        cases gk with
        | zero => exact absurd HA.out (by simp [spec_l7Costs.l2])
        | succ k3 =>
         have H := HA.out
         clear HA
         simp only [spec_l7Costs.l2] at H
         by_cases c15 : x7_3 < (l1.length : Int)
         ·rw [if_pos c15] at H
          have c15b0 : decide (x7_3 < (l1.length : Int)) = true := decide_eq_true c15
          clear c15
          by_cases c16 : 0 ≤ x7_3
          ·rw [if_pos c16] at H
           have c16b0 : decide (0 ≤ x7_3) = true := decide_eq_true c16
           clear c16
           by_cases c17 : 0 ≤ ((rd_T44 l1 x7_3).f0)
           ·rw [if_pos c17] at H
            have c17b0 : decide (0 ≤ ((rd_T44 l1 x7_3).f0)) = true := decide_eq_true c17
            clear c17
            by_cases c18 : ((rd_T44 l1 x7_3).f0) < (x5_3.length : Int)
            ·rw [if_pos c18] at H
             have c18b0 : decide (((rd_T44 l1 x7_3).f0) < (x5_3.length : Int)) = true := decide_eq_true c18
             clear c18
             by_cases c19 : 0 ≤ ((rd_T44 l1 x7_3).f1)
             ·rw [if_pos c19] at H
              have c19b0 : decide (0 ≤ ((rd_T44 l1 x7_3).f1)) = true := decide_eq_true c19
              clear c19
              by_cases c20 : ((rd_T44 l1 x7_3).f1) < (x5_3.length : Int)
              ·rw [if_pos c20] at H
               have c20b0 : decide (((rd_T44 l1 x7_3).f1) < (x5_3.length : Int)) = true := decide_eq_true c20
               clear c20
               obtain ⟨ji21, hji21⟩ : ∃ j_ : Int, (mn (rd x5_3 ((rd_T44 l1 x7_3).f0)) (wrap64 ((rd x5_3 ((rd_T44 l1 x7_3).f1)) + ((rd_T44 l1 x7_3).f2)))) = j_ := ⟨_, rfl⟩
               replace H : ((some (x5_3.set (((rd_T44 l1 x7_3).f0) : Int).toNat (ji21) : List Int)).bind fun y141 => (spec_l7Costs.l2 k3 l1 (y141.set (((rd_T44 l1 x7_3).f1) : Int).toNat (mn (rd y141 ((rd_T44 l1 x7_3).f1)) (wrap64 ((rd y141 ((rd_T44 l1 x7_3).f0)) + ((rd_T44 l1 x7_3).f2))))) (wrap64 (x7_3 + 1)) a0 x28_2)) = some r := by first | (rw [hji21] at H; exact H) | (simp only [hji21] at H ⊢; exact H)
               have hji21_ : (if (wrap64 ((rd x5_3 ((rd_T44 l1 x7_3).f1)) + ((rd_T44 l1 x7_3).f2))) < (rd x5_3 ((rd_T44 l1 x7_3).f0)) then (wrap64 ((rd x5_3 ((rd_T44 l1 x7_3).f1)) + ((rd_T44 l1 x7_3).f2))) else (rd x5_3 ((rd_T44 l1 x7_3).f0))) = ji21 := hji21
               obtain ⟨y141, hy141⟩ : ∃ y_ : List Int, y_ = (x5_3.set (((rd_T44 l1 x7_3).f0) : Int).toNat (ji21)) := ⟨_, rfl⟩
               replace H : (spec_l7Costs.l2 k3 l1 (y141.set (((rd_T44 l1 x7_3).f1) : Int).toNat (mn (rd y141 ((rd_T44 l1 x7_3).f1)) (wrap64 ((rd y141 ((rd_T44 l1 x7_3).f0)) + ((rd_T44 l1 x7_3).f2))))) (wrap64 (x7_3 + 1)) a0 x28_2) = some r := by first | (rw [hy141]; with_reducible exact H) | (have H2_ := (Option.bind_some _ _).symm.trans H; rw [hy141]; with_reducible exact H2_) | (have H2_ := (Option.bind_some _ _).symm.trans H; with_reducible exact H2_) | with_reducible exact H | (rw [hy141]; exact H) | exact H
               have Ny141 := Aside0.mk hy141
               clear hy141
               obtain ⟨ji23, hji23⟩ : ∃ j_ : Int, (mn (rd y141 ((rd_T44 l1 x7_3).f1)) (wrap64 ((rd y141 ((rd_T44 l1 x7_3).f0)) + ((rd_T44 l1 x7_3).f2)))) = j_ := ⟨_, rfl⟩
               replace H : (spec_l7Costs.l2 k3 l1 (y141.set (((rd_T44 l1 x7_3).f1) : Int).toNat (ji23)) (wrap64 (x7_3 + 1)) a0 x28_2) = some r := by first | (rw [hji23] at H; exact H) | (simp only [hji23] at H ⊢; exact H)
               have hji23_ : (if (wrap64 ((rd y141 ((rd_T44 l1 x7_3).f0)) + ((rd_T44 l1 x7_3).f2))) < (rd y141 ((rd_T44 l1 x7_3).f1)) then (wrap64 ((rd y141 ((rd_T44 l1 x7_3).f0)) + ((rd_T44 l1 x7_3).f2))) else (rd y141 ((rd_T44 l1 x7_3).f1))) = ji23 := hji23
               obtain ⟨y144, hy144⟩ : ∃ y_ : List Int, y_ = (y141.set (((rd_T44 l1 x7_3).f1) : Int).toNat (ji23)) := ⟨_, rfl⟩
               replace H : (spec_l7Costs.l2 k3 l1 y144 (wrap64 (x7_3 + 1)) a0 x28_2) = some r := by first | (rw [hy144]; with_reducible exact H) | (have H2_ := (Option.bind_some _ _).symm.trans H; rw [hy144]; with_reducible exact H2_) | (have H2_ := (Option.bind_some _ _).symm.trans H; with_reducible exact H2_) | with_reducible exact H | (rw [hy144]; exact H) | exact H
               have Ny144 := Aside0.mk hy144
               clear hy144
               have H' := Aside0.mk H
               clear H
               have p137 : 0 ≤ (x7_3 : Int) := od
               have q137 : x7_3 < (l1.length : Int) := od
               obtain ⟨ad137, e137, hx137_0, hx137_1, hx137_2⟩ := at_T44 HR1.out x7_3 p137 q137
               cases e137
               (try replace hx137_0 := (HB.out.cell (World.block_lt_of_cell? w _ hx137_0)).trans hx137_0)
               (try replace hx137_1 := (HB.out.cell (World.block_lt_of_cell? w _ hx137_1)).trans hx137_1)
               (try replace hx137_2 := (HB.out.cell (World.block_lt_of_cell? w _ hx137_2)).trans hx137_2)
               replace p137 := eq_true p137
               replace q137 := eq_true q137
               try go_wp2_with (first | ((with_reducible refine gate_dst (N := 8) rfl ?_); refine box_event ?hg (N := 8) ?hd (cs := #[.int .i64 0, .int .i64 0, .int .i64 0]) (t := 44) ?hr ?_; (case hd => rfl); (case hg => rfl); (case hr => first | (go_simp; done) | (go_simp; rfl)); intro gb138 hg w25 hbox hb; have n0_ := Aside0.mk (Kd.R_below (ru HO_5.out) hb); have n1_ := Aside0.mk (below_step (bw HB.out) hb); have n2_ := Aside0.mk (hbox); have n3_ := Aside0.mk ((by rw [hg]; exact (below_size (bw HB.out)) : w.heap.size ≤ gb138)); have n4_ := Aside0.mk ((by rw [hg]; exact (below_size (bw HB.out)) : w.heap.size ≤ gb138)); clear HO_5; clear HB; have HO_5 := n0_; have HB := n1_; have BK138 := n2_; have GW138 := n3_; have GE138 := n4_; clear n0_ n1_ n2_ n3_ n4_; clear hb hbox hg; have hcz26_0 : w25.cell? ⟨gb138, 0, none⟩ = some (.int .i64 0) := (blk_cell BK138.out 0).trans rfl; have hcz26_1 : w25.cell? ⟨gb138, 1, none⟩ = some (.int .i64 0) := (blk_cell BK138.out 1).trans rfl; have hcz26_2 : w25.cell? ⟨gb138, 2, none⟩ = some (.int .i64 0) := (blk_cell BK138.out 2).trans rfl; have hfz26_0 := blk_frozen BK138.out 0; have hfz26_1 := blk_frozen BK138.out 1; have hfz26_2 := blk_frozen BK138.out 2))
               have n0_ : Aside0 (Kd.R (Kd.int .i64) 3 (((w25.setCell ⟨gb138, 0, none⟩ (.int .i64 ((rd_T44 l1 x7_3).f0))).setCell ⟨gb138, 1, none⟩ (.int .i64 ((rd_T44 l1 x7_3).f1))).setCell ⟨gb138, 2, none⟩ (.int .i64 ((rd_T44 l1 x7_3).f2))) w.heap.size (fun _ => True) u5 x5_3) := ⟨by (with_reducible repeat (first | apply Kd.R_alloc | apply Kd.R_drewN | apply Kd.R_drew)); exact Kd.R_mono (Kd.R_far (p := ⟨gb138, 2, none⟩) (Kd.R_far (p := ⟨gb138, 1, none⟩) (Kd.R_far (p := ⟨gb138, 0, none⟩) (Kd.R_types HO_5.out BK138.out (by decide)) (fun _ hk => hk.2) (.int .i64 ((rd_T44 l1 x7_3).f0))) (fun _ hk => hk.2) (.int .i64 ((rd_T44 l1 x7_3).f1))) (fun _ hk => hk.2) (.int .i64 ((rd_T44 l1 x7_3).f2))) (fun _ hk => trivial)⟩
               have n1_ : Aside0 ((((w25.setCell ⟨gb138, 0, none⟩ (.int .i64 ((rd_T44 l1 x7_3).f0))).setCell ⟨gb138, 1, none⟩ (.int .i64 ((rd_T44 l1 x7_3).f1))).setCell ⟨gb138, 2, none⟩ (.int .i64 ((rd_T44 l1 x7_3).f2))).heap[gb138]? = some (.cells #[.int .i64 ((rd_T44 l1 x7_3).f0), .int .i64 ((rd_T44 l1 x7_3).f1), .int .i64 ((rd_T44 l1 x7_3).f2)] 44 (0, 0))) := ⟨by (with_reducible repeat (first | refine blk_drewN ?_ _ | refine blk_drew ?_ | refine blk_alloc ?_ _)); refine blk_put (cs := #[.int .i64 ((rd_T44 l1 x7_3).f0), .int .i64 ((rd_T44 l1 x7_3).f1), .int .i64 0]) ?_ 2 _ rfl; (with_reducible repeat (first | refine blk_drewN ?_ _ | refine blk_drew ?_ | refine blk_alloc ?_ _)); refine blk_put (cs := #[.int .i64 ((rd_T44 l1 x7_3).f0), .int .i64 0, .int .i64 0]) ?_ 1 _ rfl; (with_reducible repeat (first | refine blk_drewN ?_ _ | refine blk_drew ?_ | refine blk_alloc ?_ _)); refine blk_put (cs := #[.int .i64 0, .int .i64 0, .int .i64 0]) ?_ 0 _ rfl; (with_reducible repeat (first | refine blk_drewN ?_ _ | refine blk_drew ?_ | refine blk_alloc ?_ _)); exact BK138.out⟩
               have n2_ : Aside0 (Below w.heap.size w (((w25.setCell ⟨gb138, 0, none⟩ (.int .i64 ((rd_T44 l1 x7_3).f0))).setCell ⟨gb138, 1, none⟩ (.int .i64 ((rd_T44 l1 x7_3).f1))).setCell ⟨gb138, 2, none⟩ (.int .i64 ((rd_T44 l1 x7_3).f2)))) := ⟨bw HB.out⟩
               (try clear HO_5)
               (try clear BK138)
               (try clear HB)
               generalize (((w25.setCell ⟨gb138, 0, none⟩ (.int .i64 ((rd_T44 l1 x7_3).f0))).setCell ⟨gb138, 1, none⟩ (.int .i64 ((rd_T44 l1 x7_3).f1))).setCell ⟨gb138, 2, none⟩ (.int .i64 ((rd_T44 l1 x7_3).f2))) = w27 at n0_ n1_ n2_ ⊢
               have HO_5 := n0_
               have BK138 := n1_
               have HB := n2_
               clear n0_ n1_ n2_
               have n0_ := Aside0.mk (Kd.R_drew HO_5.out)
               have n1_ := Aside0.mk (blk_drew BK138.out)
               have n2_ := Aside0.mk (below_drew1 HB.out)
               clear HO_5
               clear BK138
               clear HB
               have HO_5 := n0_
               have BK138 := n1_
               have HB := n2_
               clear n0_ n1_ n2_
               obtain ⟨Ao29, co29, eo29⟩ := Kd.R_slice HO_5.out
               (first | subst eo29 | (injection eo29 with f1_ f2_ f3_; have f4_ := f1_.symm; have f5_ := f3_.symm; clear f1_ f2_ f3_; subst f4_; subst f5_))
               have p139 : 0 ≤ (((rd_T44 l1 x7_3).f0) : Int) := od
               have q139 : ((rd_T44 l1 x7_3).f0) < (x5_3.length : Int) := od
               obtain ⟨ad139, e139, hx139_0⟩ := Kd.at_int (Kd.R_reads' HO_5.out).2.2 ((rd_T44 l1 x7_3).f0) p139 q139
               cases e139
               replace p139 := eq_true p139
               replace q139 := eq_true q139
               have p140 : 0 ≤ (((rd_T44 l1 x7_3).f1) : Int) := od
               have q140 : ((rd_T44 l1 x7_3).f1) < (x5_3.length : Int) := od
               obtain ⟨ad140, e140, hx140_0⟩ := Kd.at_int (Kd.R_reads' HO_5.out).2.2 ((rd_T44 l1 x7_3).f1) p140 q140
               obtain rfl : ad139 = ad140 := (by injection e140)
               replace p140 := eq_true p140
               replace q140 := eq_true q140
               have p22 : 0 ≤ (((rd_T44 l1 x7_3).f0) : Int) := od
               have q22 : (((rd_T44 l1 x7_3).f0) : Int) < ((x5_3.length : Int) : Int) := od
               obtain ⟨go22, co22, eo22, gb22, gl22, cl22, HG22⟩ := Kd.R_form HO_5.out (by omega)
               (first | cases eo22 | (injection eo22 with ea_ en_ ec_; (first | subst ea_ | (injection ea_ with ea_; subst ea_)); subst ec_; clear en_))
               have GB22 := Aside0.mk gb22
               have GG22 := Aside0.mk HG22
               clear gb22 gl22 HG22
               (first | simp only [add_plain] at hx139_0 | skip)
               (first | simp only [add_plain] at hx140_0 | skip)
               obtain ⟨hx22_0, hf22_0⟩ := Kd.R_celln 0 HO_5.out (((rd_T44 l1 x7_3).f0) : Int) p22 q22
               replace p22 := eq_true p22
               replace q22 := eq_true q22
               have HP30 := Kd.R_putn HO_5.out (((rd_T44 l1 x7_3).f0) : Int) ji21
               rw [← Ny141.out] at HP30
               have HQ30 := Aside0.mk HP30
               clear HP30
               refine start_ (n := 19) (S := fun w' => w'.cell? ⟨gb138, 0, none⟩ = some (.int .i64 ((rd_T44 l1 x7_3).f0)) ∧ w'.cell? ⟨gb138, 1, none⟩ = some (.int .i64 ((rd_T44 l1 x7_3).f1)) ∧ w'.cell? ⟨gb138, 2, none⟩ = some (.int .i64 ((rd_T44 l1 x7_3).f2)) ∧ w'.cell? ⟨go22, (((rd_T44 l1 x7_3).f0)).toNat, none⟩ = some (.int .i64 (rd x5_3 ((rd_T44 l1 x7_3).f0))) ∧ w'.cell? ⟨go22, (((rd_T44 l1 x7_3).f1)).toNat, none⟩ = some (.int .i64 (rd x5_3 ((rd_T44 l1 x7_3).f1)))) (ds := [18]) (bl 19 0) (by kernel_rfl) rfl (by kernel_rfl) ⟨(blk_cell BK138.out 0).trans rfl, (blk_cell BK138.out 1).trans rfl, (blk_cell BK138.out 2).trans rfl, hx139_0, hx140_0⟩ (fun hHeld => ?_); refine with_tabW spec_l7Costs.tab14 spec_l7Costs.bits14 (fun HT_ HW_ => ?_)
               generalize w27.drew = w28 at HO_5 BK138 HB GG22 HQ30 hf22_0 hx139_0 hx140_0 hx22_0 hHeld ⊢
               refine pA 0 (some 40) (bl 19 1) HT_ (h := ?_)
               refine pA 1 (some 41) (bl 19 3) HT_ (h := ?_)
               refine pA 3 (some 43) (bl 19 11) HT_ (h := ?_)
               refine pA 4 (some 44) (bl 19 27) HT_ (h := ?_)
               refine pA 8 (some 48) (bl 19 283) HT_ (h := ?_)
               refine pA 9 (some 49) (bl 19 795) HT_ (h := ?_)
               refine pA 13 (some 53) (bl 19 8987) HT_ (h := ?_)
               refine tA 2 (some 42) (bl 19 8991) HT_ HW_ hHeld (h := ?_)
               refine tA 5 (some 45) (bl 19 9023) HT_ HW_ hHeld (h := ?_)
               refine pA 6 (some 46) (bl 19 9087) HT_ (h := ?_)
               refine tA 7 (some 47) (bl 19 9215) HT_ HW_ hHeld (h := ?_)
               refine tA 10 (some 50) (bl 19 10239) HT_ HW_ hHeld (h := ?_)
               refine pA 11 (some 51) (bl 19 12287) HT_ (h := ?_)
               refine tA 12 (some 52) (bl 19 16383) HT_ HW_ hHeld (h := ?_)
               refine tA 14 (some 54) (bl 19 32767) HT_ HW_ hHeld (h := ?_)
               refine pA 15 (some 55) (bl 19 65535) HT_ (h := ?_)
               refine pA 16 (some 56) (bl 19 131071) HT_ (h := ?_)
               refine pA 17 (some 57) (bl 19 262143) HT_ (h := ?_)
               refine last_ (i := 18) (N := none) (bl 19 524287) rfl rfl (one_of HT_.out (by kernel_rfl)) (by decide) (fun K hK => ?_)
               refine skip_ (w1 := ?_) (by rfl) rfl ?_ ?_
               rotate_left
               ·go_simp
                rfl
               refine hK.out _ _ ?_
               clear hK K
               refine done_ (done_of HT_.out (by kernel_rfl)) ?_
               try go_wp2
               have n0_ : Aside0 (Kd.R (Kd.int .i64) 3 (w28.setCell ⟨go22, (((rd_T44 l1 x7_3).f0) : Int).toNat, none⟩ (.int .i64 ji21)) w.heap.size (fun _ => True) (.slice (some ⟨go22, 0, none⟩) x5_3.length co29) y141) := ⟨ru HQ30.out⟩
               have n1_ : Aside0 ((w28.setCell ⟨go22, (((rd_T44 l1 x7_3).f0) : Int).toNat, none⟩ (.int .i64 ji21)).heap[gb138]? = some (.cells #[.int .i64 ((rd_T44 l1 x7_3).f0), .int .i64 ((rd_T44 l1 x7_3).f1), .int .i64 ((rd_T44 l1 x7_3).f2)] 44 (0, 0))) := ⟨by (with_reducible repeat (first | refine blk_drewN ?_ _ | refine blk_drew ?_ | refine blk_alloc ?_ _)); refine blk_far ?_ (by have h_ := Kd.R_ne HO_5.out BK138.out (by decide); intro e_; exact h_ (by rw [e_]; rfl)) _; (with_reducible repeat (first | refine blk_drewN ?_ _ | refine blk_drew ?_ | refine blk_alloc ?_ _)); exact BK138.out⟩
               have n2_ : Aside0 (Below w.heap.size w (w28.setCell ⟨go22, (((rd_T44 l1 x7_3).f0) : Int).toNat, none⟩ (.int .i64 ji21))) := ⟨bw HB.out⟩
               (try clear HO_5)
               (try clear BK138)
               (try clear HB)
               generalize (w28.setCell ⟨go22, (((rd_T44 l1 x7_3).f0) : Int).toNat, none⟩ (.int .i64 ji21)) = w31 at n0_ n1_ n2_ ⊢
               have HO_5 := n0_
               have BK138 := n1_
               have HB := n2_
               clear n0_ n1_ n2_
               have n0_ := Aside0.mk (Kd.R_drew HO_5.out)
               have n1_ := Aside0.mk (blk_drew BK138.out)
               have n2_ := Aside0.mk (below_drew1 HB.out)
               clear HO_5
               clear BK138
               clear HB
               have HO_5 := n0_
               have BK138 := n1_
               have HB := n2_
               clear n0_ n1_ n2_
               have p142 : 0 ≤ (((rd_T44 l1 x7_3).f1) : Int) := od
               have q142 : ((rd_T44 l1 x7_3).f1) < (y141.length : Int) := (by have h_ : (((rd_T44 l1 x7_3).f1) : Int) < ((x5_3.length : Int) : Int) := od; first | (have e_ := (Kd.R_reads' HO_5.out).1; omega) | simpa only [Ny141.out, List.length_set] using h_)
               have ql142 : ((((rd_T44 l1 x7_3).f1) : Int) < ((x5_3.length : Int) : Int)) = True := eq_true od
               obtain ⟨ad142, e142, hx142_0⟩ := Kd.at_int (Kd.R_reads' HO_5.out).2.2 ((rd_T44 l1 x7_3).f1) p142 q142
               obtain rfl : (⟨go22, 0, none⟩ : Addr) = ad142 := (by injection e142)
               (first | simp only [add_plain] at hx142_0 | simp only [add_at] at hx142_0 | simp only [Addr.add, Nat.zero_add] at hx142_0 | skip)
               replace p142 := eq_true p142
               replace q142 := eq_true q142
               have p143 : 0 ≤ (((rd_T44 l1 x7_3).f0) : Int) := od
               have q143 : ((rd_T44 l1 x7_3).f0) < (y141.length : Int) := (by have h_ : (((rd_T44 l1 x7_3).f0) : Int) < ((x5_3.length : Int) : Int) := od; first | (have e_ := (Kd.R_reads' HO_5.out).1; omega) | simpa only [Ny141.out, List.length_set] using h_)
               have ql143 : ((((rd_T44 l1 x7_3).f0) : Int) < ((x5_3.length : Int) : Int)) = True := eq_true od
               obtain ⟨ad143, e143, hx143_0⟩ := Kd.at_int (Kd.R_reads' HO_5.out).2.2 ((rd_T44 l1 x7_3).f0) p143 q143
               obtain rfl : (⟨go22, 0, none⟩ : Addr) = ad143 := (by injection e143)
               (first | simp only [add_plain] at hx143_0 | simp only [add_at] at hx143_0 | simp only [Addr.add, Nat.zero_add] at hx143_0 | skip)
               replace p143 := eq_true p143
               replace q143 := eq_true q143
               have p24 : 0 ≤ (((rd_T44 l1 x7_3).f1) : Int) := od
               have q24 : (((rd_T44 l1 x7_3).f1) : Int) < ((x5_3.length : Int) : Int) := od
               obtain ⟨hx24_0, hf24_0⟩ := Kd.R_celln 0 HO_5.out (((rd_T44 l1 x7_3).f1) : Int) p24 q24
               replace p24 := eq_true p24
               replace q24 := eq_true q24
               have HP33 := Kd.R_putn HO_5.out (((rd_T44 l1 x7_3).f1) : Int) ji23
               rw [← Ny144.out] at HP33
               have HQ33 := Aside0.mk HP33
               clear HP33
               refine start_ (n := 19) (S := fun w' => w'.cell? ⟨gb138, 0, none⟩ = some (.int .i64 ((rd_T44 l1 x7_3).f0)) ∧ w'.cell? ⟨gb138, 1, none⟩ = some (.int .i64 ((rd_T44 l1 x7_3).f1)) ∧ w'.cell? ⟨gb138, 2, none⟩ = some (.int .i64 ((rd_T44 l1 x7_3).f2)) ∧ w'.cell? ⟨go22, (((rd_T44 l1 x7_3).f1)).toNat, none⟩ = some (.int .i64 (rd y141 ((rd_T44 l1 x7_3).f1))) ∧ w'.cell? ⟨go22, (((rd_T44 l1 x7_3).f0)).toNat, none⟩ = some (.int .i64 (rd y141 ((rd_T44 l1 x7_3).f0)))) (ds := [18]) (bl 19 0) (by kernel_rfl) rfl (by kernel_rfl) ⟨(blk_cell BK138.out 0).trans rfl, (blk_cell BK138.out 1).trans rfl, (blk_cell BK138.out 2).trans rfl, hx142_0, hx143_0⟩ (fun hHeld => ?_); refine with_tabW spec_l7Costs.tab15 spec_l7Costs.bits15 (fun HT_ HW_ => ?_)
               generalize w31.drew = w32 at HO_5 BK138 HB HQ30 HQ33 hf24_0 hx142_0 hx143_0 hx24_0 hHeld ⊢
               refine pA 0 (some 58) (bl 19 1) HT_ (h := ?_)
               refine pA 1 (some 59) (bl 19 3) HT_ (h := ?_)
               refine pA 3 (some 61) (bl 19 11) HT_ (h := ?_)
               refine pA 4 (some 62) (bl 19 27) HT_ (h := ?_)
               refine pA 8 (some 66) (bl 19 283) HT_ (h := ?_)
               refine pA 9 (some 67) (bl 19 795) HT_ (h := ?_)
               refine pA 13 (some 71) (bl 19 8987) HT_ (h := ?_)
               refine tA 2 (some 60) (bl 19 8991) HT_ HW_ hHeld (h := ?_)
               refine tA 5 (some 63) (bl 19 9023) HT_ HW_ hHeld (h := ?_)
               refine pA 6 (some 64) (bl 19 9087) HT_ (h := ?_)
               refine tA 7 (some 65) (bl 19 9215) HT_ HW_ hHeld (h := ?_)
               refine tA 10 (some 68) (bl 19 10239) HT_ HW_ hHeld (h := ?_)
               refine pA 11 (some 69) (bl 19 12287) HT_ (h := ?_)
               refine tA 12 (some 70) (bl 19 16383) HT_ HW_ hHeld (h := ?_)
               refine tA 14 (some 72) (bl 19 32767) HT_ HW_ hHeld (h := ?_)
               refine pA 15 (some 73) (bl 19 65535) HT_ (h := ?_)
               refine pA 16 (some 74) (bl 19 131071) HT_ (h := ?_)
               refine pA 17 (some 75) (bl 19 262143) HT_ (h := ?_)
               refine last_ (i := 18) (N := none) (bl 19 524287) rfl rfl (one_of HT_.out (by kernel_rfl)) (by decide) (fun K hK => ?_)
               refine skip_ (w1 := ?_) (by rfl) rfl ?_ ?_
               rotate_left
               ·go_simp
                rfl
               refine hK.out _ _ ?_
               clear hK K
               refine done_ (done_of HT_.out (by kernel_rfl)) ?_
               try go_wp2
               go_roundg k3
               case measure => have := HK1.out; have := HK2.out; have := HK3.out; omega
               case rel => exact ⟨(y144), (wrap64 (x7_3 + 1)), fs, H', ⟨by have := HK1.out; have := HK2.out; have := HK3.out; omega⟩, ⟨ru HQ33.out⟩, ⟨bw HB.out⟩⟩
              ·rw [if_neg c20] at H
               exact absurd H (by simp)
             ·rw [if_neg c19] at H
              exact absurd H (by simp)
            ·rw [if_neg c18] at H
             exact absurd H (by simp)
           ·rw [if_neg c17] at H
            exact absurd H (by simp)
          ·rw [if_neg c16] at H
           exact absurd H (by simp)
         ·rw [if_neg c15] at H
          have c15b0 : decide (x7_3 < (l1.length : Int)) = false := decide_eq_false c15
          clear c15
          have H' := Aside0.mk H
          clear H
          go_wp2
          go_roundg k3
          case measure => have := HK1.out; have := HK2.out; have := HK3.out; omega
          case rel => exact ⟨(x5_3), (wrap64 (x28_2 + 1)), fs, H', ⟨by have := HK1.out; have := HK2.out; have := HK3.out; omega⟩, ⟨ru HO_5.out⟩, ⟨bw HB.out⟩⟩
      ·rw [if_neg c14] at H
       have c14b0 : decide (x28_2 < a0) = false := decide_eq_false c14
       clear c14
       obtain rfl := Option.some.inj H
       go_wp2
       go_ret
       exact ⟨_, fe, ru HO_5.out, bw HB.out⟩

end Go.Proofs.Ytegnghbgkiddoaa.PA
