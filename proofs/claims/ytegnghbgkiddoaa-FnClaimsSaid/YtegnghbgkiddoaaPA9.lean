-- Laid by this session's own program (pr.py) over the translation; Lean checks it.
import Derived.Test.YtegnghbgkiddoaaPA0
import Derived.Test.YtegnghbgkiddoaaPA5
import Derived.Test.YtegnghbgkiddoaaPA7
import Derived.Test.YtegnghbgkiddoaaHSq
import Derived.Test.YtegnghbgkiddoaaWRepsOne
namespace Go.Proofs.Ytegnghbgkiddoaa.PA
open Go.RowKit Go.Proofs.YtegnghbgkiddoaaW.PrintWords Go.Proofs.YtegnghbgkiddoaaW.PrintLast Go.Proofs.YtegnghbgkiddoaaW.PrintMore
attribute [local go_sem] max2_int min2_int max_two min_two max_three min_three max_four min_four   -- for this text's walks alone
set_option linter.unusedVariables false
set_option linter.unusedSimpArgs false

/-! ### impl_costsOf: function 66 -/
-- IMPORT HSq
mutual
def impl_costsOf.l0 : Nat → Int → List (S44) → List Int → List Int → Int → Int → Option (List Int)
 | 0, _, _, _, _, _, _ => none
 | k + 1, x0, x1, x5, x15, x16, x17 => if x17 < x16 then (if 0 ≤ x17 then (if x17 < (x15.length : Int) then (if x17 = (rd x15 x17) then (if x17 < (x5.length : Int) then (impl_costsOf.l0 k x0 x1 (x5.set (x17 : Int).toNat 0) x15 x16 (wrap64 (x17 + 1))) else (none)) else (impl_costsOf.l0 k x0 x1 x5 x15 x16 (wrap64 (x17 + 1)))) else (none)) else (none)) else (impl_costsOf.l1 k x1 x5 x0 0)
def impl_costsOf.l1 : Nat → List (S44) → List Int → Int → Int → Option (List Int)
 | 0, _, _, _, _ => none
 | k + 1, x1, x5, x29, x30 => if x30 < x29 then (impl_costsOf.l2 k x1 x5 x29 x30 x1 (x1.length : Int) 0) else (some x5)
def impl_costsOf.l2 : Nat → List (S44) → List Int → Int → Int → List (S44) → Int → Int → Option (List Int)
 | 0, _, _, _, _, _, _, _ => none
 | k + 1, x1, x5, x29, x30, x32, x33, x34 => if x34 < x33 then (if 0 ≤ x34 then (if x34 < (x32.length : Int) then (if 0 ≤ ((rd_T44 x32 x34).f0) then (if ((rd_T44 x32 x34).f0) < (x5.length : Int) then (if 0 ≤ ((rd_T44 x32 x34).f1) then (if ((rd_T44 x32 x34).f1) < (x5.length : Int) then ((some (x5.set (((rd_T44 x32 x34).f0) : Int).toNat (mn (rd x5 ((rd_T44 x32 x34).f0)) (wrap64 ((rd x5 ((rd_T44 x32 x34).f1)) + ((rd_T44 x32 x34).f2)))) : List Int)).bind fun y203 => (impl_costsOf.l2 k x1 (y203.set (((rd_T44 x32 x34).f1) : Int).toNat (mn (rd y203 ((rd_T44 x32 x34).f1)) (wrap64 ((rd y203 ((rd_T44 x32 x34).f0)) + ((rd_T44 x32 x34).f2))))) x29 x30 x32 x33 (wrap64 (x34 + 1)))) else (none)) else (none)) else (none)) else (none)) else (none)) else (none)) else (impl_costsOf.l1 k x1 x5 x29 (wrap64 (x30 + 1)))
end
def impl_costsOf.f (k : Nat) (a0 : Int) (l1 : List (S44)) : Option (List Int) := (slices_Repeat_int_int.f (([1073741824] : List Int)) a0).bind fun t191 => ((impl_rootsOf.f k a0 l1).bind fun t194 => (impl_costsOf.l0 k a0 l1 t191 t194 (t194.length : Int) 0))
def impl_costsOf.T13 : Bool × List (List Nat × List Nat) := (true, [([], []), ([], []), ([1], [1]), ([], []), ([], []), ([4], [4]), ([3, 5], [3, 5]), ([6], [6]), ([], []), ([], []), ([9], [9]), ([8, 10], [8, 10]), ([11], [11]), ([], []), ([13], [13]), ([12, 14], [12, 14]), ([7, 15], [7, 15]), ([0, 2, 0, 1, 2, 3, 4, 5, 6, 7, 8, 9, 10, 11, 12, 13, 14, 15, 16], [0, 2]), ([17, 16, 0, 1, 2, 3, 4, 5, 6, 7, 8, 9, 10, 11, 12, 13, 14, 15, 16], [16, 17])])
def impl_costsOf.B13 : List Nat := [0, 0, 2, 0, 0, 16, 56, 120, 0, 0, 512, 1792, 3840, 0, 8192, 32512, 65528, 131071, 262143]
theorem impl_costsOf.tab13 : rtab .any (opsOf Try.f66 13) = impl_costsOf.T13 := by kernel_rfl
theorem impl_costsOf.bits13 : waitsOk impl_costsOf.T13.2 impl_costsOf.B13 = true := by kernel_rfl
def impl_costsOf.T14 : Bool × List (List Nat × List Nat) := (true, [([], []), ([], []), ([1], [1]), ([], []), ([], []), ([4], [4]), ([3, 5], [3, 5]), ([6], [6]), ([], []), ([], []), ([9], [9]), ([8, 10], [8, 10]), ([11], [11]), ([], []), ([13], [13]), ([12, 14], [12, 14]), ([7, 15], [7, 15]), ([0, 2, 0, 1, 2, 3, 4, 5, 6, 7, 8, 9, 10, 11, 12, 13, 14, 15, 16], [0, 2]), ([17, 16, 0, 1, 2, 3, 4, 5, 6, 7, 8, 9, 10, 11, 12, 13, 14, 15, 16], [16, 17])])
def impl_costsOf.B14 : List Nat := [0, 0, 2, 0, 0, 16, 56, 120, 0, 0, 512, 1792, 3840, 0, 8192, 32512, 65528, 131071, 262143]
theorem impl_costsOf.tab14 : rtab .any (opsOf Try.f66 14) = impl_costsOf.T14 := by kernel_rfl
theorem impl_costsOf.bits14 : waitsOk impl_costsOf.T14.2 impl_costsOf.B14 = true := by kernel_rfl
set_option maxHeartbeats 8000000 in
set_option maxRecDepth 100000 in
theorem impl_costsOf.calls (k : Nat) (a0 : Int) (A1 : Option Addr) (c1 : Nat) (l1 : List (S44)) (r : List Int) (w : World) (hr1 : Kd.C k44 w A1 l1.length l1) (hc1 : l1.length ≤ c1) (h : impl_costsOf.f k a0 l1 = some r) :
  Calls Try.prog 66 #[.int .i64 a0, .slice A1 l1.length c1] w fun e w' => ∃ v0_ : Value, e = .returned (v0_) ∧ Kd.R (Kd.int .i64) 3 w' w.heap.size (fun _ => True) v0_ r ∧ Below w.heap.size w w' := by
 have hu44 := Try.underlying44
 have HR1 := Aside0.mk hr1
 have HC1 := Aside0.mk hc1
 clear hr1 hc1
 have HB := Aside0.mk (Below.refl w.heap.size w)
 have H : ((slices_Repeat_int_int.f (([1073741824] : List Int)) a0).bind fun t191 => ((impl_rootsOf.f k a0 l1).bind fun t194 => (impl_costsOf.l0 k a0 l1 t191 t194 (t194.length : Int) 0))) = some r := h
 clear h
 obtain ⟨y188, hy188⟩ : ∃ y_ : List Int, y_ = (([1073741824] : List Int)) := ⟨_, rfl⟩
 replace H : ((slices_Repeat_int_int.f y188 a0).bind fun t191 => ((impl_rootsOf.f k a0 l1).bind fun t194 => (impl_costsOf.l0 k a0 l1 t191 t194 (t194.length : Int) 0))) = some r := by first | (rw [hy188]; with_reducible exact H) | (have H2_ := (Option.bind_some _ _).symm.trans H; rw [hy188]; with_reducible exact H2_) | (have H2_ := (Option.bind_some _ _).symm.trans H; with_reducible exact H2_) | with_reducible exact H | (rw [hy188]; exact H) | exact H
 have Ny188 := Aside0.mk hy188
 clear hy188
 replace H := Option.bind_eq_some_iff.mp H
 obtain ⟨t191, A30, H⟩ := H
 try dsimp only at H
 have A3 := Aside0.mk A30
 clear A30
 replace H := Option.bind_eq_some_iff.mp H
 obtain ⟨t194, A40, H⟩ := H
 try dsimp only at H
 have A4 := Aside0.mk A40
 clear A40
 have H' := Aside0.mk H
 clear H
 go_enter Try.func66, Try.ntmps66
 go_wp2_with (first | ((with_reducible refine gate_dst (N := 10) rfl ?_); refine Kd.R_lit (Kd.int .i64) _ 3 ?hg (N := 10) ?hd (xs := ([1073741824] : List Int)) (inner := [.int .i64 1073741824]) (ok := fun _ => True) (okp := fun _ => True) ?hr ?hp (fun _ hk => hk) trivial (Below.refl _ _) (Nat.le_refl _) (by simp) ?_; (case hd => rfl); (case hg => rfl); (case hr => first | (go_simp; done) | (go_simp; rfl)); (case hp => exact (Reps.one (show Kd.M (Kd.int .i64) _ _ _ 1073741824 [.int .i64 1073741824] from rfl) (Reps.none _ _))); intro v189 w5 ho6 hb hg_ hnew_; clear hg_ hnew_; (first | rw [← Ny188.out] at ho6 | (simp only [Int.reduceToNat] at ho6; rw [← Ny188.out] at ho6)); have n0_ := Aside0.mk (Kd.R_lower ho6 (below_size (bw HB.out))); have n1_ := Aside0.mk (below_step (bw HB.out) hb); clear HB; have HO190 := n0_; have HB := n1_; clear n0_ n1_; clear hb ho6; obtain ⟨Ao7, co7, eo7⟩ := Kd.R_slice HO190.out; subst eo7) | ((with_reducible refine gate_callee (f := 95) rfl ?_); refine goesL_ (some 12) rfl rfl Try.func95 (by kernel_rfl) rfl #[.slice Ao7 y188.length co7, .int .i64 a0] rfl (by (try simp only [List.map_toArray, List.map_cons, List.map_nil]); first | done | rfl | (simp only [List.length_drop, List.length_take]; rfl)) ?_; (with_reducible refine (slices_Repeat_int_int.calls _ _ y188 a0 t191 _ ?side1 ?side2 A3.out).mono ?_); (case side1 => repeat (first | exact (Kd.R_reads' HO190.out).2.2 | (with_reducible refine Kd.C_alloc ?_ _) | (with_reducible refine Kd.C_drewN ?_ _) | (with_reducible refine Kd.C_drew ?_))); (case side2 => exact (Kd.R_reads' HO190.out).2.1); rintro e w8 ⟨v192, rfl, ho0, hb⟩; refine ⟨_, rfl, ?_⟩; have n0_ := Aside0.mk (Kd.R_elder' (ru HO190.out) (Kd.R_base ho0) hb); have n1_ := Aside0.mk (Kd.R_lower (Kd.R_new' ho0 (Kd.R_lt (ru HO190.out))) (below_size (bw HB.out))); have n2_ := Aside0.mk (below_step (bw HB.out) hb); clear HO190; clear HB; have HO190 := n0_; have HO193 := n1_; have HB := n2_; clear n0_ n1_ n2_; (try clear hb); (try clear hb2); (try clear hk); (try clear hi); (try clear ho0)) | ((with_reducible refine gate_callee (f := 75) rfl ?_); refine goesL_ (some 15) rfl rfl Try.func75 (by kernel_rfl) rfl #[.int .i64 a0, .slice A1 l1.length c1] rfl (by (try simp only [List.map_toArray, List.map_cons, List.map_nil]); first | done | rfl | (simp only [List.length_drop, List.length_take]; rfl)) ?_; (with_reducible refine (impl_rootsOf.calls k a0 _ _ l1 t194 _ ?side1 ?side2 A4.out).mono ?_); (case side1 => repeat (first | exact (Kd.C_below HR1.out HB.out) | (with_reducible refine Kd.C_alloc ?_ _) | (with_reducible refine Kd.C_drewN ?_ _) | (with_reducible refine Kd.C_drew ?_))); (case side2 => exact HC1.out); rintro e w9 ⟨v195, rfl, ho0, hb⟩; refine ⟨_, rfl, ?_⟩; have n0_ := Aside0.mk (Kd.R_elder' (ru HO190.out) (Kd.R_base ho0) hb); have n1_ := Aside0.mk (Kd.R_elder' (ru HO193.out) (Kd.R_base ho0) hb); have n2_ := Aside0.mk (Kd.R_lower (Kd.R_new' (Kd.R_new' ho0 (Kd.R_lt (ru HO190.out))) (Kd.R_lt (ru HO193.out))) (below_size (bw HB.out))); have n3_ := Aside0.mk (below_step (bw HB.out) hb); clear HO190; clear HO193; clear HB; have HO190 := n0_; have HO193 := n1_; have HO196 := n2_; have HB := n3_; clear n0_ n1_ n2_ n3_; (try clear hb); (try clear hb2); (try clear hk); (try clear hi); (try clear ho0); obtain ⟨Ao10, co10, eo10⟩ := Kd.R_slice HO196.out; subst eo10))
 go_loopg [17] k (fun kq v17 w' => ∃ (x5_1 : List Int) (x17_1 : Int), v17 = .int .i64 x17_1 ∧ Aside0 (impl_costsOf.l0 kq a0 l1 x5_1 t194 (t194.length : Int) x17_1 = some r) ∧ Aside0 (kq ≤ k) ∧ Aside0 (Kd.R (Kd.int .i64) 3 w' w.heap.size (fun k_ => some k_ ≠ ((.slice Ao10 t194.length co10) : Value).ownBlock) v192 x5_1) ∧ Aside0 (Kd.R (Kd.int .i64) 3 w' w.heap.size (fun k_ => some k_ ≠ (v192 : Value).ownBlock) (.slice Ao10 t194.length co10) t194) ∧ Aside0 (Below w.heap.size w w'))
 case atStart => exact ⟨(t191), (0), fs, H', ⟨Nat.le_refl _⟩, ⟨by (with_reducible repeat (first | apply Kd.R_alloc | apply Kd.R_drewN | apply Kd.R_drew)); exact Kd.R_mono HO193.out (fun _ hk => hk.2)⟩, ⟨by (with_reducible repeat (first | apply Kd.R_alloc | apply Kd.R_drewN | apply Kd.R_drew)); exact Kd.R_mono HO196.out (fun _ hk => hk.2)⟩, ⟨bw HB.out⟩⟩
 case round =>
  clear H'
  try clear c1
  try clear p2
  try clear c6
  try clear c7
  try clear c9
  obtain ⟨x5_1, x17_1, rfl, HA, HK1, HO_5, HO_15, HB⟩ := hrel
  cases gk with
  | zero => exact absurd HA.out (by simp [impl_costsOf.l0])
  | succ k1 =>
   have H := HA.out
   clear HA
   simp only [impl_costsOf.l0] at H
   by_cases c11 : x17_1 < (t194.length : Int)
   ·rw [if_pos c11] at H
    have c11b0 : decide (x17_1 < (t194.length : Int)) = true := decide_eq_true c11
    clear c11
    by_cases c12 : 0 ≤ x17_1
    ·rw [if_pos c12] at H
     have c12b0 : decide (0 ≤ x17_1) = true := decide_eq_true c12
     clear c12
     by_cases c13 : x17_1 < (t194.length : Int)
     ·rw [if_pos c13] at H
      have c13b0 : decide (x17_1 < (t194.length : Int)) = true := decide_eq_true c13
      clear c13
      by_cases c14 : x17_1 = (rd t194 x17_1)
      ·rw [if_pos c14] at H
       have c14b0 : (x17_1 == (rd t194 x17_1)) = true := beq_iff_eq.mpr c14
       have c14b1 : (x17_1 != (rd t194 x17_1)) = false := bne_eq_false_iff_eq.mpr c14
       clear c14
       by_cases c15 : x17_1 < (x5_1.length : Int)
       ·rw [if_pos c15] at H
        have c15b0 : decide (x17_1 < (x5_1.length : Int)) = true := decide_eq_true c15
        clear c15
        obtain ⟨y198, hy198⟩ : ∃ y_ : List Int, y_ = (x5_1.set (x17_1 : Int).toNat 0) := ⟨_, rfl⟩
        replace H : (impl_costsOf.l0 k1 a0 l1 y198 t194 (t194.length : Int) (wrap64 (x17_1 + 1))) = some r := by first | (rw [hy198]; with_reducible exact H) | (have H2_ := (Option.bind_some _ _).symm.trans H; rw [hy198]; with_reducible exact H2_) | (have H2_ := (Option.bind_some _ _).symm.trans H; with_reducible exact H2_) | with_reducible exact H | (rw [hy198]; exact H) | exact H
        have Ny198 := Aside0.mk hy198
        clear hy198
        have H' := Aside0.mk H
        clear H
        have p197 : 0 ≤ (x17_1 : Int) := od
        have q197 : x17_1 < (t194.length : Int) := od
        obtain ⟨ad197, e197, hx197_0⟩ := Kd.at_int (Kd.R_reads' HO_15.out).2.2 x17_1 p197 q197
        cases e197
        replace p197 := eq_true p197
        replace q197 := eq_true q197
        have p16 : 0 ≤ (x17_1 : Int) := od
        have q16 : (x17_1 : Int) < ((x5_1.length : Int) : Int) := od
        obtain ⟨go16, co16, eo16, gb16, gl16, cl16, HG16⟩ := Kd.R_form HO_5.out (by omega)
        (first | cases eo16 | (injection eo16 with ea_ en_ ec_; (first | subst ea_ | (injection ea_ with ea_; subst ea_)); subst ec_; clear en_))
        have GB16 := Aside0.mk gb16
        have GG16 := Aside0.mk HG16
        clear gb16 gl16 HG16
        obtain ⟨hx16_0, hf16_0⟩ := Kd.R_celln 0 HO_5.out (x17_1 : Int) p16 q16
        replace p16 := eq_true p16
        replace q16 := eq_true q16
        have HP17 := Kd.R_putg HO_5.out (x17_1 : Int) 0
        go_wp2_with (first | ((with_reducible refine gate_store (t := 3) (p := 27) rfl ?_); refine store_event (t := 3) (p := 27) (v := ?vo_w18) (w1 := (wr.setCell ⟨go16, (x17_1 : Int).toNat, none⟩ (.int .i64 0))) ?hg ?ho ?hn ?hr ?_; (case ho => rfl); (case hg => rfl); (case hn => rfl); (case hr => first | (go_simp; done) | (go_simp; rfl)); intro w18 hw; have hg : wr.grownBy w18 (some go16) := (by rw [hw]; exact HP17.2); have hp_ : Kd.R (Kd.int .i64) 3 w18 w.heap.size (fun k_ => some k_ ≠ (.slice (some ad197) t194.length co10 : Value).ownBlock) (.slice (some ⟨go16, 0, none⟩) x5_1.length co16) y198 := (by rw [hw, Ny198.out]; exact HP17.1); clear HP17; have n0_ := Aside0.mk (hp_); have n1_ := Aside0.mk (Kd.R_after (v := (.slice (some ⟨go16, 0, none⟩) x5_1.length co16)) (v1 := (.slice (some ⟨go16, 0, none⟩) x5_1.length co16)) (ok := (fun _ => True)) (by (with_reducible repeat (first | apply Kd.R_alloc | apply Kd.R_drewN | apply Kd.R_drew)); exact Kd.R_mono HO_15.out (fun _ hk => ⟨trivial, hk⟩)) hg (.inl rfl)); have n2_ := Aside0.mk ((by rw [hw]; exact below_set (HB.out) GB16.out : Below w.heap.size w w18)); clear HO_5; clear HO_15; clear HB; have HO_5 := n0_; have HO_15 := n1_; have HB := n2_; clear n0_ n1_ n2_; clear hg hw hp_))
        go_roundg k1
        case measure => have := HK1.out; omega
        case rel => exact ⟨(y198), (wrap64 (x17_1 + 1)), fs, H', ⟨by have := HK1.out; omega⟩, ⟨ru HO_5.out⟩, ⟨by (with_reducible repeat (first | apply Kd.R_alloc | apply Kd.R_drewN | apply Kd.R_drew)); exact Kd.R_mono HO_15.out (fun _ hk => hk.2)⟩, ⟨bw HB.out⟩⟩
       ·rw [if_neg c15] at H
        exact absurd H (by simp)
      ·rw [if_neg c14] at H
       have c14b0 : (x17_1 == (rd t194 x17_1)) = false := beq_eq_false_iff_ne.mpr c14
       have c14b1 : (x17_1 != (rd t194 x17_1)) = true := bne_iff_ne.mpr c14
       have H' := Aside0.mk H
       clear H
       have p197 : 0 ≤ (x17_1 : Int) := od
       have q197 : x17_1 < (t194.length : Int) := od
       obtain ⟨ad197, e197, hx197_0⟩ := Kd.at_int (Kd.R_reads' HO_15.out).2.2 x17_1 p197 q197
       cases e197
       replace p197 := eq_true p197
       replace q197 := eq_true q197
       go_wp2
       go_roundg k1
       case measure => have := HK1.out; omega
       case rel => exact ⟨(x5_1), (wrap64 (x17_1 + 1)), fs, H', ⟨by have := HK1.out; omega⟩, ⟨ru HO_5.out⟩, ⟨ru HO_15.out⟩, ⟨bw HB.out⟩⟩
     ·rw [if_neg c13] at H
      exact absurd H (by simp)
    ·rw [if_neg c12] at H
     exact absurd H (by simp)
   ·rw [if_neg c11] at H
    have c11b0 : decide (x17_1 < (t194.length : Int)) = false := decide_eq_false c11
    clear c11
    have H' := Aside0.mk H
    clear H
    go_wp2
    go_loopg [30] k1 (fun kq v30 w' => ∃ (x5_2 : List Int) (x30_2 : Int), v30 = .int .i64 x30_2 ∧ Aside0 (impl_costsOf.l1 kq l1 x5_2 a0 x30_2 = some r) ∧ Aside0 (kq ≤ k1) ∧ Aside0 (Kd.R (Kd.int .i64) 3 w' w.heap.size (fun _ => True) v192 x5_2) ∧ Aside0 (Below w.heap.size w w'))
    case atStart => exact ⟨(x5_1), (0), fs, H', ⟨Nat.le_refl _⟩, ⟨by (with_reducible repeat (first | apply Kd.R_alloc | apply Kd.R_drewN | apply Kd.R_drew)); exact Kd.R_mono HO_5.out (fun _ hk => trivial)⟩, ⟨bw HB.out⟩⟩
    case round =>
     clear H'
     try clear c1
     try clear p1
     try clear q1
     try clear hx1
     try clear p2
     try clear c6
     try clear p6
     try clear c7
     try clear c9
     try clear c11
     try clear c11b0
     try clear c12
     try clear c12b0
     try clear c13
     try clear c13b0
     try clear c14
     try clear c14b0
     try clear c14b1
     try clear c15
     try clear c15b0
     try clear p16
     try clear q16
     try clear hx16
     try clear hf16
     try clear hx16_0
     try clear hx197_0
     try clear p16
     try clear p197
     try clear p2
     try clear q16
     try clear q197
     obtain ⟨x5_2, x30_2, rfl, HA, HK2, HO_5, HB⟩ := hrel
     cases gk with
     | zero => exact absurd HA.out (by simp [impl_costsOf.l1])
     | succ k2 =>
      have H := HA.out
      clear HA
      simp only [impl_costsOf.l1] at H
      by_cases c19 : x30_2 < a0
      ·rw [if_pos c19] at H
       have c19b0 : decide (x30_2 < a0) = true := decide_eq_true c19
       clear c19
       have H' := Aside0.mk H
       clear H
       go_wp2
       go_loopg [34] k2 (fun kq v34 w' => ∃ (x5_3 : List Int) (x34_3 : Int), v34 = .int .i64 x34_3 ∧ Aside0 (impl_costsOf.l2 kq l1 x5_3 a0 x30_2 l1 (l1.length : Int) x34_3 = some r) ∧ Aside0 (kq ≤ k2) ∧ Aside0 (Kd.R (Kd.int .i64) 3 w' w.heap.size (fun _ => True) v192 x5_3) ∧ Aside0 (Below w.heap.size w w'))
       case atStart => exact ⟨(x5_2), (0), fs, H', ⟨Nat.le_refl _⟩, ⟨ru HO_5.out⟩, ⟨bw HB.out⟩⟩
       case round =>
        clear H'
        try clear c1
        try clear p1
        try clear q1
        try clear hx1
        try clear p2
        try clear c6
        try clear p6
        try clear c7
        try clear c9
        try clear c11
        try clear c11b0
        try clear c12
        try clear c12b0
        try clear c13
        try clear c13b0
        try clear c14
        try clear c14b0
        try clear c14b1
        try clear c15
        try clear c15b0
        try clear p16
        try clear q16
        try clear hx16
        try clear hf16
        try clear c19
        try clear c19b0
        try clear p19
        try clear q19
        try clear hx19
        try clear hx16_0
        try clear hx197_0
        try clear p1
        try clear p16
        try clear p197
        try clear p2
        try clear p6
        try clear q1
        try clear q16
        try clear q197
        obtain ⟨x5_3, x34_3, rfl, HA, HK3, HO_5, HB⟩ := hrel
        cases gk with
        | zero => exact absurd HA.out (by simp [impl_costsOf.l2])
        | succ k3 =>
         have H := HA.out
         clear HA
         simp only [impl_costsOf.l2] at H
         by_cases c20 : x34_3 < (l1.length : Int)
         ·rw [if_pos c20] at H
          have c20b0 : decide (x34_3 < (l1.length : Int)) = true := decide_eq_true c20
          clear c20
          by_cases c21 : 0 ≤ x34_3
          ·rw [if_pos c21] at H
           have c21b0 : decide (0 ≤ x34_3) = true := decide_eq_true c21
           clear c21
           by_cases c22 : x34_3 < (l1.length : Int)
           ·rw [if_pos c22] at H
            have c22b0 : decide (x34_3 < (l1.length : Int)) = true := decide_eq_true c22
            clear c22
            by_cases c23 : 0 ≤ ((rd_T44 l1 x34_3).f0)
            ·rw [if_pos c23] at H
             have c23b0 : decide (0 ≤ ((rd_T44 l1 x34_3).f0)) = true := decide_eq_true c23
             clear c23
             by_cases c24 : ((rd_T44 l1 x34_3).f0) < (x5_3.length : Int)
             ·rw [if_pos c24] at H
              have c24b0 : decide (((rd_T44 l1 x34_3).f0) < (x5_3.length : Int)) = true := decide_eq_true c24
              clear c24
              by_cases c25 : 0 ≤ ((rd_T44 l1 x34_3).f1)
              ·rw [if_pos c25] at H
               have c25b0 : decide (0 ≤ ((rd_T44 l1 x34_3).f1)) = true := decide_eq_true c25
               clear c25
               by_cases c26 : ((rd_T44 l1 x34_3).f1) < (x5_3.length : Int)
               ·rw [if_pos c26] at H
                have c26b0 : decide (((rd_T44 l1 x34_3).f1) < (x5_3.length : Int)) = true := decide_eq_true c26
                clear c26
                obtain ⟨ji27, hji27⟩ : ∃ j_ : Int, (mn (rd x5_3 ((rd_T44 l1 x34_3).f0)) (wrap64 ((rd x5_3 ((rd_T44 l1 x34_3).f1)) + ((rd_T44 l1 x34_3).f2)))) = j_ := ⟨_, rfl⟩
                replace H : ((some (x5_3.set (((rd_T44 l1 x34_3).f0) : Int).toNat (ji27) : List Int)).bind fun y203 => (impl_costsOf.l2 k3 l1 (y203.set (((rd_T44 l1 x34_3).f1) : Int).toNat (mn (rd y203 ((rd_T44 l1 x34_3).f1)) (wrap64 ((rd y203 ((rd_T44 l1 x34_3).f0)) + ((rd_T44 l1 x34_3).f2))))) a0 x30_2 l1 (l1.length : Int) (wrap64 (x34_3 + 1)))) = some r := by first | (rw [hji27] at H; exact H) | (simp only [hji27] at H ⊢; exact H)
                have hji27_ : (if (wrap64 ((rd x5_3 ((rd_T44 l1 x34_3).f1)) + ((rd_T44 l1 x34_3).f2))) < (rd x5_3 ((rd_T44 l1 x34_3).f0)) then (wrap64 ((rd x5_3 ((rd_T44 l1 x34_3).f1)) + ((rd_T44 l1 x34_3).f2))) else (rd x5_3 ((rd_T44 l1 x34_3).f0))) = ji27 := hji27
                obtain ⟨y203, hy203⟩ : ∃ y_ : List Int, y_ = (x5_3.set (((rd_T44 l1 x34_3).f0) : Int).toNat (ji27)) := ⟨_, rfl⟩
                replace H : (impl_costsOf.l2 k3 l1 (y203.set (((rd_T44 l1 x34_3).f1) : Int).toNat (mn (rd y203 ((rd_T44 l1 x34_3).f1)) (wrap64 ((rd y203 ((rd_T44 l1 x34_3).f0)) + ((rd_T44 l1 x34_3).f2))))) a0 x30_2 l1 (l1.length : Int) (wrap64 (x34_3 + 1))) = some r := by first | (rw [hy203]; with_reducible exact H) | (have H2_ := (Option.bind_some _ _).symm.trans H; rw [hy203]; with_reducible exact H2_) | (have H2_ := (Option.bind_some _ _).symm.trans H; with_reducible exact H2_) | with_reducible exact H | (rw [hy203]; exact H) | exact H
                have Ny203 := Aside0.mk hy203
                clear hy203
                obtain ⟨ji29, hji29⟩ : ∃ j_ : Int, (mn (rd y203 ((rd_T44 l1 x34_3).f1)) (wrap64 ((rd y203 ((rd_T44 l1 x34_3).f0)) + ((rd_T44 l1 x34_3).f2)))) = j_ := ⟨_, rfl⟩
                replace H : (impl_costsOf.l2 k3 l1 (y203.set (((rd_T44 l1 x34_3).f1) : Int).toNat (ji29)) a0 x30_2 l1 (l1.length : Int) (wrap64 (x34_3 + 1))) = some r := by first | (rw [hji29] at H; exact H) | (simp only [hji29] at H ⊢; exact H)
                have hji29_ : (if (wrap64 ((rd y203 ((rd_T44 l1 x34_3).f0)) + ((rd_T44 l1 x34_3).f2))) < (rd y203 ((rd_T44 l1 x34_3).f1)) then (wrap64 ((rd y203 ((rd_T44 l1 x34_3).f0)) + ((rd_T44 l1 x34_3).f2))) else (rd y203 ((rd_T44 l1 x34_3).f1))) = ji29 := hji29
                obtain ⟨y206, hy206⟩ : ∃ y_ : List Int, y_ = (y203.set (((rd_T44 l1 x34_3).f1) : Int).toNat (ji29)) := ⟨_, rfl⟩
                replace H : (impl_costsOf.l2 k3 l1 y206 a0 x30_2 l1 (l1.length : Int) (wrap64 (x34_3 + 1))) = some r := by first | (rw [hy206]; with_reducible exact H) | (have H2_ := (Option.bind_some _ _).symm.trans H; rw [hy206]; with_reducible exact H2_) | (have H2_ := (Option.bind_some _ _).symm.trans H; with_reducible exact H2_) | with_reducible exact H | (rw [hy206]; exact H) | exact H
                have Ny206 := Aside0.mk hy206
                clear hy206
                have H' := Aside0.mk H
                clear H
                have p199 : 0 ≤ (x34_3 : Int) := od
                have q199 : x34_3 < (l1.length : Int) := od
                obtain ⟨ad199, e199, hx199_0, hx199_1, hx199_2⟩ := at_T44 HR1.out x34_3 p199 q199
                cases e199
                (try replace hx199_0 := (HB.out.cell (World.block_lt_of_cell? w _ hx199_0)).trans hx199_0)
                (try replace hx199_1 := (HB.out.cell (World.block_lt_of_cell? w _ hx199_1)).trans hx199_1)
                (try replace hx199_2 := (HB.out.cell (World.block_lt_of_cell? w _ hx199_2)).trans hx199_2)
                replace p199 := eq_true p199
                replace q199 := eq_true q199
                try go_wp2_with (first | ((with_reducible refine gate_dst (N := 9) rfl ?_); refine box_event ?hg (N := 9) ?hd (cs := #[.int .i64 0, .int .i64 0, .int .i64 0]) (t := 44) ?hr ?_; (case hd => rfl); (case hg => rfl); (case hr => first | (go_simp; done) | (go_simp; rfl)); intro gb200 hg w31 hbox hb; have n0_ := Aside0.mk (Kd.R_below (ru HO_5.out) hb); have n1_ := Aside0.mk (below_step (bw HB.out) hb); have n2_ := Aside0.mk (hbox); have n3_ := Aside0.mk ((by rw [hg]; exact (below_size (bw HB.out)) : w.heap.size ≤ gb200)); have n4_ := Aside0.mk ((by rw [hg]; exact (below_size (bw HB.out)) : w.heap.size ≤ gb200)); clear HO_5; clear HB; have HO_5 := n0_; have HB := n1_; have BK200 := n2_; have GW200 := n3_; have GE200 := n4_; clear n0_ n1_ n2_ n3_ n4_; clear hb hbox hg; have hcz32_0 : w31.cell? ⟨gb200, 0, none⟩ = some (.int .i64 0) := (blk_cell BK200.out 0).trans rfl; have hcz32_1 : w31.cell? ⟨gb200, 1, none⟩ = some (.int .i64 0) := (blk_cell BK200.out 1).trans rfl; have hcz32_2 : w31.cell? ⟨gb200, 2, none⟩ = some (.int .i64 0) := (blk_cell BK200.out 2).trans rfl; have hfz32_0 := blk_frozen BK200.out 0; have hfz32_1 := blk_frozen BK200.out 1; have hfz32_2 := blk_frozen BK200.out 2))
                have n0_ : Aside0 (Kd.R (Kd.int .i64) 3 (((w31.setCell ⟨gb200, 0, none⟩ (.int .i64 ((rd_T44 l1 x34_3).f0))).setCell ⟨gb200, 1, none⟩ (.int .i64 ((rd_T44 l1 x34_3).f1))).setCell ⟨gb200, 2, none⟩ (.int .i64 ((rd_T44 l1 x34_3).f2))) w.heap.size (fun _ => True) v192 x5_3) := ⟨by (with_reducible repeat (first | apply Kd.R_alloc | apply Kd.R_drewN | apply Kd.R_drew)); exact Kd.R_mono (Kd.R_far (p := ⟨gb200, 2, none⟩) (Kd.R_far (p := ⟨gb200, 1, none⟩) (Kd.R_far (p := ⟨gb200, 0, none⟩) (Kd.R_types HO_5.out BK200.out (by decide)) (fun _ hk => hk.2) (.int .i64 ((rd_T44 l1 x34_3).f0))) (fun _ hk => hk.2) (.int .i64 ((rd_T44 l1 x34_3).f1))) (fun _ hk => hk.2) (.int .i64 ((rd_T44 l1 x34_3).f2))) (fun _ hk => trivial)⟩
                have n1_ : Aside0 ((((w31.setCell ⟨gb200, 0, none⟩ (.int .i64 ((rd_T44 l1 x34_3).f0))).setCell ⟨gb200, 1, none⟩ (.int .i64 ((rd_T44 l1 x34_3).f1))).setCell ⟨gb200, 2, none⟩ (.int .i64 ((rd_T44 l1 x34_3).f2))).heap[gb200]? = some (.cells #[.int .i64 ((rd_T44 l1 x34_3).f0), .int .i64 ((rd_T44 l1 x34_3).f1), .int .i64 ((rd_T44 l1 x34_3).f2)] 44 (0, 0))) := ⟨by (with_reducible repeat (first | refine blk_drewN ?_ _ | refine blk_drew ?_ | refine blk_alloc ?_ _)); refine blk_put (cs := #[.int .i64 ((rd_T44 l1 x34_3).f0), .int .i64 ((rd_T44 l1 x34_3).f1), .int .i64 0]) ?_ 2 _ rfl; (with_reducible repeat (first | refine blk_drewN ?_ _ | refine blk_drew ?_ | refine blk_alloc ?_ _)); refine blk_put (cs := #[.int .i64 ((rd_T44 l1 x34_3).f0), .int .i64 0, .int .i64 0]) ?_ 1 _ rfl; (with_reducible repeat (first | refine blk_drewN ?_ _ | refine blk_drew ?_ | refine blk_alloc ?_ _)); refine blk_put (cs := #[.int .i64 0, .int .i64 0, .int .i64 0]) ?_ 0 _ rfl; (with_reducible repeat (first | refine blk_drewN ?_ _ | refine blk_drew ?_ | refine blk_alloc ?_ _)); exact BK200.out⟩
                have n2_ : Aside0 (Below w.heap.size w (((w31.setCell ⟨gb200, 0, none⟩ (.int .i64 ((rd_T44 l1 x34_3).f0))).setCell ⟨gb200, 1, none⟩ (.int .i64 ((rd_T44 l1 x34_3).f1))).setCell ⟨gb200, 2, none⟩ (.int .i64 ((rd_T44 l1 x34_3).f2)))) := ⟨bw HB.out⟩
                (try clear HO_5)
                (try clear BK200)
                (try clear HB)
                generalize (((w31.setCell ⟨gb200, 0, none⟩ (.int .i64 ((rd_T44 l1 x34_3).f0))).setCell ⟨gb200, 1, none⟩ (.int .i64 ((rd_T44 l1 x34_3).f1))).setCell ⟨gb200, 2, none⟩ (.int .i64 ((rd_T44 l1 x34_3).f2))) = w33 at n0_ n1_ n2_ ⊢
                have HO_5 := n0_
                have BK200 := n1_
                have HB := n2_
                clear n0_ n1_ n2_
                have n0_ := Aside0.mk (Kd.R_drew HO_5.out)
                have n1_ := Aside0.mk (blk_drew BK200.out)
                have n2_ := Aside0.mk (below_drew1 HB.out)
                clear HO_5
                clear BK200
                clear HB
                have HO_5 := n0_
                have BK200 := n1_
                have HB := n2_
                clear n0_ n1_ n2_
                obtain ⟨Ao35, co35, eo35⟩ := Kd.R_slice HO_5.out
                (first | subst eo35 | (injection eo35 with f1_ f2_ f3_; have f4_ := f1_.symm; have f5_ := f3_.symm; clear f1_ f2_ f3_; subst f4_; subst f5_))
                have p201 : 0 ≤ (((rd_T44 l1 x34_3).f0) : Int) := od
                have q201 : ((rd_T44 l1 x34_3).f0) < (x5_3.length : Int) := od
                obtain ⟨ad201, e201, hx201_0⟩ := Kd.at_int (Kd.R_reads' HO_5.out).2.2 ((rd_T44 l1 x34_3).f0) p201 q201
                cases e201
                replace p201 := eq_true p201
                replace q201 := eq_true q201
                have p202 : 0 ≤ (((rd_T44 l1 x34_3).f1) : Int) := od
                have q202 : ((rd_T44 l1 x34_3).f1) < (x5_3.length : Int) := od
                obtain ⟨ad202, e202, hx202_0⟩ := Kd.at_int (Kd.R_reads' HO_5.out).2.2 ((rd_T44 l1 x34_3).f1) p202 q202
                obtain rfl : ad201 = ad202 := (by injection e202)
                replace p202 := eq_true p202
                replace q202 := eq_true q202
                have p28 : 0 ≤ (((rd_T44 l1 x34_3).f0) : Int) := od
                have q28 : (((rd_T44 l1 x34_3).f0) : Int) < ((x5_3.length : Int) : Int) := od
                obtain ⟨go28, co28, eo28, gb28, gl28, cl28, HG28⟩ := Kd.R_form HO_5.out (by omega)
                (first | cases eo28 | (injection eo28 with ea_ en_ ec_; (first | subst ea_ | (injection ea_ with ea_; subst ea_)); subst ec_; clear en_))
                have GB28 := Aside0.mk gb28
                have GG28 := Aside0.mk HG28
                clear gb28 gl28 HG28
                (first | simp only [add_plain] at hx201_0 | skip)
                (first | simp only [add_plain] at hx202_0 | skip)
                obtain ⟨hx28_0, hf28_0⟩ := Kd.R_celln 0 HO_5.out (((rd_T44 l1 x34_3).f0) : Int) p28 q28
                replace p28 := eq_true p28
                replace q28 := eq_true q28
                have HP36 := Kd.R_putn HO_5.out (((rd_T44 l1 x34_3).f0) : Int) ji27
                rw [← Ny203.out] at HP36
                have HQ36 := Aside0.mk HP36
                clear HP36
                refine start_ (n := 19) (S := fun w' => w'.cell? ⟨gb200, 0, none⟩ = some (.int .i64 ((rd_T44 l1 x34_3).f0)) ∧ w'.cell? ⟨gb200, 1, none⟩ = some (.int .i64 ((rd_T44 l1 x34_3).f1)) ∧ w'.cell? ⟨gb200, 2, none⟩ = some (.int .i64 ((rd_T44 l1 x34_3).f2)) ∧ w'.cell? ⟨go28, (((rd_T44 l1 x34_3).f0)).toNat, none⟩ = some (.int .i64 (rd x5_3 ((rd_T44 l1 x34_3).f0))) ∧ w'.cell? ⟨go28, (((rd_T44 l1 x34_3).f1)).toNat, none⟩ = some (.int .i64 (rd x5_3 ((rd_T44 l1 x34_3).f1)))) (ds := [18]) (bl 19 0) (by kernel_rfl) rfl (by kernel_rfl) ⟨(blk_cell BK200.out 0).trans rfl, (blk_cell BK200.out 1).trans rfl, (blk_cell BK200.out 2).trans rfl, hx201_0, hx202_0⟩ (fun hHeld => ?_); refine with_tabW impl_costsOf.tab13 impl_costsOf.bits13 (fun HT_ HW_ => ?_)
                generalize w33.drew = w34 at HO_5 BK200 HB GG28 HQ36 hf28_0 hx201_0 hx202_0 hx28_0 hHeld ⊢
                refine pA 0 (some 38) (bl 19 1) HT_ (h := ?_)
                refine pA 1 (some 39) (bl 19 3) HT_ (h := ?_)
                refine pA 3 (some 41) (bl 19 11) HT_ (h := ?_)
                refine pA 4 (some 42) (bl 19 27) HT_ (h := ?_)
                refine pA 8 (some 46) (bl 19 283) HT_ (h := ?_)
                refine pA 9 (some 47) (bl 19 795) HT_ (h := ?_)
                refine pA 13 (some 51) (bl 19 8987) HT_ (h := ?_)
                refine tA 2 (some 40) (bl 19 8991) HT_ HW_ hHeld (h := ?_)
                refine tA 5 (some 43) (bl 19 9023) HT_ HW_ hHeld (h := ?_)
                refine pA 6 (some 44) (bl 19 9087) HT_ (h := ?_)
                refine tA 7 (some 45) (bl 19 9215) HT_ HW_ hHeld (h := ?_)
                refine tA 10 (some 48) (bl 19 10239) HT_ HW_ hHeld (h := ?_)
                refine pA 11 (some 49) (bl 19 12287) HT_ (h := ?_)
                refine tA 12 (some 50) (bl 19 16383) HT_ HW_ hHeld (h := ?_)
                refine tA 14 (some 52) (bl 19 32767) HT_ HW_ hHeld (h := ?_)
                refine pA 15 (some 53) (bl 19 65535) HT_ (h := ?_)
                refine pA 16 (some 54) (bl 19 131071) HT_ (h := ?_)
                refine pA 17 (some 55) (bl 19 262143) HT_ (h := ?_)
                refine last_ (i := 18) (N := none) (bl 19 524287) rfl rfl (one_of HT_.out (by kernel_rfl)) (by decide) (fun K hK => ?_)
                refine skip_ (w1 := ?_) (by rfl) rfl ?_ ?_
                rotate_left
                ·go_simp
                 rfl
                refine hK.out _ _ ?_
                clear hK K
                refine done_ (done_of HT_.out (by kernel_rfl)) ?_
                try go_wp2
                have n0_ : Aside0 (Kd.R (Kd.int .i64) 3 (w34.setCell ⟨go28, (((rd_T44 l1 x34_3).f0) : Int).toNat, none⟩ (.int .i64 ji27)) w.heap.size (fun _ => True) (.slice (some ⟨go28, 0, none⟩) x5_3.length co35) y203) := ⟨ru HQ36.out⟩
                have n1_ : Aside0 ((w34.setCell ⟨go28, (((rd_T44 l1 x34_3).f0) : Int).toNat, none⟩ (.int .i64 ji27)).heap[gb200]? = some (.cells #[.int .i64 ((rd_T44 l1 x34_3).f0), .int .i64 ((rd_T44 l1 x34_3).f1), .int .i64 ((rd_T44 l1 x34_3).f2)] 44 (0, 0))) := ⟨by (with_reducible repeat (first | refine blk_drewN ?_ _ | refine blk_drew ?_ | refine blk_alloc ?_ _)); refine blk_far ?_ (by have h_ := Kd.R_ne HO_5.out BK200.out (by decide); intro e_; exact h_ (by rw [e_]; rfl)) _; (with_reducible repeat (first | refine blk_drewN ?_ _ | refine blk_drew ?_ | refine blk_alloc ?_ _)); exact BK200.out⟩
                have n2_ : Aside0 (Below w.heap.size w (w34.setCell ⟨go28, (((rd_T44 l1 x34_3).f0) : Int).toNat, none⟩ (.int .i64 ji27))) := ⟨bw HB.out⟩
                (try clear HO_5)
                (try clear BK200)
                (try clear HB)
                generalize (w34.setCell ⟨go28, (((rd_T44 l1 x34_3).f0) : Int).toNat, none⟩ (.int .i64 ji27)) = w37 at n0_ n1_ n2_ ⊢
                have HO_5 := n0_
                have BK200 := n1_
                have HB := n2_
                clear n0_ n1_ n2_
                have n0_ := Aside0.mk (Kd.R_drew HO_5.out)
                have n1_ := Aside0.mk (blk_drew BK200.out)
                have n2_ := Aside0.mk (below_drew1 HB.out)
                clear HO_5
                clear BK200
                clear HB
                have HO_5 := n0_
                have BK200 := n1_
                have HB := n2_
                clear n0_ n1_ n2_
                have p204 : 0 ≤ (((rd_T44 l1 x34_3).f1) : Int) := od
                have q204 : ((rd_T44 l1 x34_3).f1) < (y203.length : Int) := (by have h_ : (((rd_T44 l1 x34_3).f1) : Int) < ((x5_3.length : Int) : Int) := od; first | (have e_ := (Kd.R_reads' HO_5.out).1; omega) | simpa only [Ny203.out, List.length_set] using h_)
                have ql204 : ((((rd_T44 l1 x34_3).f1) : Int) < ((x5_3.length : Int) : Int)) = True := eq_true od
                obtain ⟨ad204, e204, hx204_0⟩ := Kd.at_int (Kd.R_reads' HO_5.out).2.2 ((rd_T44 l1 x34_3).f1) p204 q204
                obtain rfl : (⟨go28, 0, none⟩ : Addr) = ad204 := (by injection e204)
                (first | simp only [add_plain] at hx204_0 | simp only [add_at] at hx204_0 | simp only [Addr.add, Nat.zero_add] at hx204_0 | skip)
                replace p204 := eq_true p204
                replace q204 := eq_true q204
                have p205 : 0 ≤ (((rd_T44 l1 x34_3).f0) : Int) := od
                have q205 : ((rd_T44 l1 x34_3).f0) < (y203.length : Int) := (by have h_ : (((rd_T44 l1 x34_3).f0) : Int) < ((x5_3.length : Int) : Int) := od; first | (have e_ := (Kd.R_reads' HO_5.out).1; omega) | simpa only [Ny203.out, List.length_set] using h_)
                have ql205 : ((((rd_T44 l1 x34_3).f0) : Int) < ((x5_3.length : Int) : Int)) = True := eq_true od
                obtain ⟨ad205, e205, hx205_0⟩ := Kd.at_int (Kd.R_reads' HO_5.out).2.2 ((rd_T44 l1 x34_3).f0) p205 q205
                obtain rfl : (⟨go28, 0, none⟩ : Addr) = ad205 := (by injection e205)
                (first | simp only [add_plain] at hx205_0 | simp only [add_at] at hx205_0 | simp only [Addr.add, Nat.zero_add] at hx205_0 | skip)
                replace p205 := eq_true p205
                replace q205 := eq_true q205
                have p30 : 0 ≤ (((rd_T44 l1 x34_3).f1) : Int) := od
                have q30 : (((rd_T44 l1 x34_3).f1) : Int) < ((x5_3.length : Int) : Int) := od
                obtain ⟨hx30_0, hf30_0⟩ := Kd.R_celln 0 HO_5.out (((rd_T44 l1 x34_3).f1) : Int) p30 q30
                replace p30 := eq_true p30
                replace q30 := eq_true q30
                have HP39 := Kd.R_putn HO_5.out (((rd_T44 l1 x34_3).f1) : Int) ji29
                rw [← Ny206.out] at HP39
                have HQ39 := Aside0.mk HP39
                clear HP39
                refine start_ (n := 19) (S := fun w' => w'.cell? ⟨gb200, 0, none⟩ = some (.int .i64 ((rd_T44 l1 x34_3).f0)) ∧ w'.cell? ⟨gb200, 1, none⟩ = some (.int .i64 ((rd_T44 l1 x34_3).f1)) ∧ w'.cell? ⟨gb200, 2, none⟩ = some (.int .i64 ((rd_T44 l1 x34_3).f2)) ∧ w'.cell? ⟨go28, (((rd_T44 l1 x34_3).f1)).toNat, none⟩ = some (.int .i64 (rd y203 ((rd_T44 l1 x34_3).f1))) ∧ w'.cell? ⟨go28, (((rd_T44 l1 x34_3).f0)).toNat, none⟩ = some (.int .i64 (rd y203 ((rd_T44 l1 x34_3).f0)))) (ds := [18]) (bl 19 0) (by kernel_rfl) rfl (by kernel_rfl) ⟨(blk_cell BK200.out 0).trans rfl, (blk_cell BK200.out 1).trans rfl, (blk_cell BK200.out 2).trans rfl, hx204_0, hx205_0⟩ (fun hHeld => ?_); refine with_tabW impl_costsOf.tab14 impl_costsOf.bits14 (fun HT_ HW_ => ?_)
                generalize w37.drew = w38 at HO_5 BK200 HB HQ36 HQ39 hf30_0 hx204_0 hx205_0 hx30_0 hHeld ⊢
                refine pA 0 (some 56) (bl 19 1) HT_ (h := ?_)
                refine pA 1 (some 57) (bl 19 3) HT_ (h := ?_)
                refine pA 3 (some 59) (bl 19 11) HT_ (h := ?_)
                refine pA 4 (some 60) (bl 19 27) HT_ (h := ?_)
                refine pA 8 (some 64) (bl 19 283) HT_ (h := ?_)
                refine pA 9 (some 65) (bl 19 795) HT_ (h := ?_)
                refine pA 13 (some 69) (bl 19 8987) HT_ (h := ?_)
                refine tA 2 (some 58) (bl 19 8991) HT_ HW_ hHeld (h := ?_)
                refine tA 5 (some 61) (bl 19 9023) HT_ HW_ hHeld (h := ?_)
                refine pA 6 (some 62) (bl 19 9087) HT_ (h := ?_)
                refine tA 7 (some 63) (bl 19 9215) HT_ HW_ hHeld (h := ?_)
                refine tA 10 (some 66) (bl 19 10239) HT_ HW_ hHeld (h := ?_)
                refine pA 11 (some 67) (bl 19 12287) HT_ (h := ?_)
                refine tA 12 (some 68) (bl 19 16383) HT_ HW_ hHeld (h := ?_)
                refine tA 14 (some 70) (bl 19 32767) HT_ HW_ hHeld (h := ?_)
                refine pA 15 (some 71) (bl 19 65535) HT_ (h := ?_)
                refine pA 16 (some 72) (bl 19 131071) HT_ (h := ?_)
                refine pA 17 (some 73) (bl 19 262143) HT_ (h := ?_)
                refine last_ (i := 18) (N := none) (bl 19 524287) rfl rfl (one_of HT_.out (by kernel_rfl)) (by decide) (fun K hK => ?_)
                refine skip_ (w1 := ?_) (by rfl) rfl ?_ ?_
                rotate_left
                ·go_simp
                 rfl
                refine hK.out _ _ ?_
                clear hK K
                refine done_ (done_of HT_.out (by kernel_rfl)) ?_
                try go_wp2
                go_roundg k3
                case measure => have := HK1.out; have := HK2.out; have := HK3.out; omega
                case rel => exact ⟨(y206), (wrap64 (x34_3 + 1)), fs, H', ⟨by have := HK1.out; have := HK2.out; have := HK3.out; omega⟩, ⟨ru HQ39.out⟩, ⟨bw HB.out⟩⟩
               ·rw [if_neg c26] at H
                exact absurd H (by simp)
              ·rw [if_neg c25] at H
               exact absurd H (by simp)
             ·rw [if_neg c24] at H
              exact absurd H (by simp)
            ·rw [if_neg c23] at H
             exact absurd H (by simp)
           ·rw [if_neg c22] at H
            exact absurd H (by simp)
          ·rw [if_neg c21] at H
           exact absurd H (by simp)
         ·rw [if_neg c20] at H
          have c20b0 : decide (x34_3 < (l1.length : Int)) = false := decide_eq_false c20
          clear c20
          have H' := Aside0.mk H
          clear H
          go_wp2
          go_roundg k3
          case measure => have := HK1.out; have := HK2.out; have := HK3.out; omega
          case rel => exact ⟨(x5_3), (wrap64 (x30_2 + 1)), fs, H', ⟨by have := HK1.out; have := HK2.out; have := HK3.out; omega⟩, ⟨ru HO_5.out⟩, ⟨bw HB.out⟩⟩
      ·rw [if_neg c19] at H
       have c19b0 : decide (x30_2 < a0) = false := decide_eq_false c19
       clear c19
       obtain rfl := Option.some.inj H
       go_wp2
       go_ret
       exact ⟨_, fe, ru HO_5.out, bw HB.out⟩

end Go.Proofs.Ytegnghbgkiddoaa.PA
