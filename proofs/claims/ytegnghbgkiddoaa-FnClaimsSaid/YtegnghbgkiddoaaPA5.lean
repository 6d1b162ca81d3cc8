-- Laid by this session's own program (pr.py) over the translation; Lean checks it.
import Derived.Test.YtegnghbgkiddoaaPA0
import Derived.Test.YtegnghbgkiddoaaHSq
namespace Go.Proofs.Ytegnghbgkiddoaa.PA
open Go.RowKit Go.Proofs.YtegnghbgkiddoaaW.PrintWords Go.Proofs.YtegnghbgkiddoaaW.PrintLast Go.Proofs.YtegnghbgkiddoaaW.PrintMore
attribute [local go_sem] max2_int min2_int max_two min_two max_three min_three max_four min_four   -- for this text's walks alone
set_option linter.unusedVariables false
set_option linter.unusedSimpArgs false

/-! ### impl_rootsOf: function 75 -/
-- IMPORT HSq
mutual
def impl_rootsOf.l0 : Nat → Int → List (S44) → List Int → Int → Int → Option (List Int)
 | 0, _, _, _, _, _ => none
 | k + 1, x0, x1, x5, x13, x14 => if x14 < x13 then (if 0 ≤ x14 then (if x14 < (x5.length : Int) then (impl_rootsOf.l0 k x0 x1 (x5.set (x14 : Int).toNat x14) x13 (wrap64 (x14 + 1))) else (none)) else (none)) else (impl_rootsOf.l1 k x1 x5 x0 0)
def impl_rootsOf.l1 : Nat → List (S44) → List Int → Int → Int → Option (List Int)
 | 0, _, _, _, _ => none
 | k + 1, x1, x5, x22, x23 => if x23 < x22 then (impl_rootsOf.l2 k x1 x5 x22 x23 x1 (x1.length : Int) 0) else (some x5)
def impl_rootsOf.l2 : Nat → List (S44) → List Int → Int → Int → List (S44) → Int → Int → Option (List Int)
 | 0, _, _, _, _, _, _, _ => none
 | k + 1, x1, x5, x22, x23, x25, x26, x27 => if x27 < x26 then (if 0 ≤ x27 then (if x27 < (x25.length : Int) then (if 0 ≤ ((rd_T44 x25 x27).f0) then (if ((rd_T44 x25 x27).f0) < (x5.length : Int) then (if 0 ≤ ((rd_T44 x25 x27).f1) then (if ((rd_T44 x25 x27).f1) < (x5.length : Int) then (impl_rootsOf.l2 k x1 ((x5.set (((rd_T44 x25 x27).f0) : Int).toNat (mn (rd x5 ((rd_T44 x25 x27).f0)) (rd x5 ((rd_T44 x25 x27).f1)))).set (((rd_T44 x25 x27).f1) : Int).toNat (mn (rd x5 ((rd_T44 x25 x27).f0)) (rd x5 ((rd_T44 x25 x27).f1)))) x22 x23 x25 x26 (wrap64 (x27 + 1))) else (none)) else (none)) else (none)) else (none)) else (none)) else (none)) else (impl_rootsOf.l1 k x1 x5 x22 (wrap64 (x23 + 1)))
end
def impl_rootsOf.f (k : Nat) (a0 : Int) (l1 : List (S44)) : Option (List Int) := if 0 ≤ a0 then (if (a0 : Int).toNat ≤ 35184372088832 then ((some (List.replicate (a0 : Int).toNat 0 : List Int)).bind fun y176 => (impl_rootsOf.l0 k a0 l1 y176 (y176.length : Int) 0)) else (none)) else (none)
def impl_rootsOf.T12 : Bool × List (List Nat × List Nat) := (true, [([], []), ([], []), ([1], [1]), ([0, 2], [0, 2]), ([3], [3]), ([], []), ([], []), ([6], [6]), ([5, 7], [5, 7]), ([8], [8]), ([4, 9], [4, 9]), ([10, 0, 1, 2, 3, 4, 5, 6, 7, 8, 9, 10], [10])])
def impl_rootsOf.B12 : List Nat := [0, 0, 2, 7, 15, 0, 0, 64, 224, 480, 1023, 2047]
theorem impl_rootsOf.tab12 : rtab .any (opsOf Try.f75 12) = impl_rootsOf.T12 := by kernel_rfl
theorem impl_rootsOf.bits12 : waitsOk impl_rootsOf.T12.2 impl_rootsOf.B12 = true := by kernel_rfl
def impl_rootsOf.T13 : Bool × List (List Nat × List Nat) := (true, [([], []), ([], []), ([1], [1]), ([], []), ([], []), ([4], [4]), ([], []), ([], []), ([0, 2, 0, 1, 2, 6], [0, 2]), ([8, 6, 0, 1, 2, 6], [6, 8]), ([3, 5, 0, 1, 2, 3, 4, 5, 6, 7, 8, 9], [3, 5]), ([10, 7, 9, 0, 1, 2, 3, 4, 5, 6, 7, 8, 9], [7, 10])])
def impl_rootsOf.B13 : List Nat := [0, 0, 2, 0, 0, 16, 0, 0, 71, 327, 1023, 2047]
theorem impl_rootsOf.tab13 : rtab .any (opsOf Try.f75 13) = impl_rootsOf.T13 := by kernel_rfl
theorem impl_rootsOf.bits13 : waitsOk impl_rootsOf.T13.2 impl_rootsOf.B13 = true := by kernel_rfl
set_option maxHeartbeats 8000000 in
set_option maxRecDepth 100000 in
theorem impl_rootsOf.calls (k : Nat) (a0 : Int) (A1 : Option Addr) (c1 : Nat) (l1 : List (S44)) (r : List Int) (w : World) (hr1 : Kd.C k44 w A1 l1.length l1) (hc1 : l1.length ≤ c1) (h : impl_rootsOf.f k a0 l1 = some r) :
  Calls Try.prog 75 #[.int .i64 a0, .slice A1 l1.length c1] w fun e w' => ∃ v0_ : Value, e = .returned (v0_) ∧ Kd.R (Kd.int .i64) 3 w' w.heap.size (fun _ => True) v0_ r ∧ Below w.heap.size w w' := by
 have hu44 := Try.underlying44
 have HR1 := Aside0.mk hr1
 have HC1 := Aside0.mk hc1
 clear hr1 hc1
 have HB := Aside0.mk (Below.refl w.heap.size w)
 have H : (if 0 ≤ a0 then (if (a0 : Int).toNat ≤ 35184372088832 then ((some (List.replicate (a0 : Int).toNat 0 : List Int)).bind fun y176 => (impl_rootsOf.l0 k a0 l1 y176 (y176.length : Int) 0)) else (none)) else (none)) = some r := h
 clear h
 by_cases c3 : 0 ≤ a0
 ·rw [if_pos c3] at H
  have c3b0 := eq_true c3
  have c3b1 : decide (0 ≤ a0) = true := decide_eq_true c3
  clear c3
  by_cases c4 : (a0 : Int).toNat ≤ 35184372088832
  ·rw [if_pos c4] at H
   have c4b0 := eq_true c4
   have c4b1 : decide ((a0 : Int).toNat ≤ 35184372088832) = true := decide_eq_true c4
   clear c4
   obtain ⟨y176, hy176⟩ : ∃ y_ : List Int, y_ = (List.replicate (a0 : Int).toNat 0) := ⟨_, rfl⟩
   replace H : (impl_rootsOf.l0 k a0 l1 y176 (y176.length : Int) 0) = some r := by first | (rw [hy176]; with_reducible exact H) | (have H2_ := (Option.bind_some _ _).symm.trans H; rw [hy176]; with_reducible exact H2_) | (have H2_ := (Option.bind_some _ _).symm.trans H; with_reducible exact H2_) | with_reducible exact H | (rw [hy176]; exact H) | exact H
   have Ny176 := Aside0.mk hy176
   clear hy176
   have H' := Aside0.mk H
   clear H
   go_enter Try.func75, Try.ntmps75
   go_wp2_with (first | ((with_reducible refine gate_dst (N := 11) rfl ?_); refine Kd.R_make (Kd.int .i64) _ 3 rfl (N := 11) rfl 24 _ _ rfl a0 rfl rfl Try.underlying24 (.int .i64 0) 8 info3 rfl (by decide) (by omega) 0 (ok := fun _ => True) (okp := fun _ => True) rfl (fun _ hk => hk) trivial od (Nat.le_trans (Nat.mul_le_mul_right _ (od : a0.toNat ≤ 35184372088832)) (by omega)) (Below.refl _ _) (Nat.le_refl _) ?_; intro v177 w5 ho6 hb hg_ hnew_; clear hg_ hnew_; (first | rw [← Ny176.out] at ho6 | (simp only [Int.reduceToNat] at ho6; rw [← Ny176.out] at ho6)); have n0_ := Aside0.mk (Kd.R_lower ho6 (below_size (bw HB.out))); have n1_ := Aside0.mk (below_step (bw HB.out) hb); clear HB; have HO178 := n0_; have HB := n1_; clear n0_ n1_; clear hb ho6; obtain ⟨Ao7, co7, eo7⟩ := Kd.R_slice HO178.out; subst eo7))
   go_loopg [14] k (fun kq v14 w' => ∃ (x5_1 : List Int) (x14_1 : Int), v14 = .int .i64 x14_1 ∧ Aside0 (impl_rootsOf.l0 kq a0 l1 x5_1 (y176.length : Int) x14_1 = some r) ∧ Aside0 (kq ≤ k) ∧ Aside0 (Kd.R (Kd.int .i64) 3 w' w.heap.size (fun _ => True) (.slice Ao7 y176.length co7) x5_1) ∧ Aside0 (Below w.heap.size w w'))
   case atStart => exact ⟨(y176), (0), fs, H', ⟨Nat.le_refl _⟩, ⟨ru HO178.out⟩, ⟨bw HB.out⟩⟩
   case round =>
    clear H'
    try clear c1
    try clear p2
    try clear c3
    try clear c3b0
    try clear c3b1
    try clear c4
    try clear c4b0
    try clear c4b1
    try clear c7
    obtain ⟨x5_1, x14_1, rfl, HA, HK1, HO_5, HB⟩ := hrel
    have hl5_1 := (Kd.R_reads' HO_5.out).1
    rw [hl5_1] at HO_5
    (try simp only [hl5_1])
    cases gk with
    | zero => exact absurd HA.out (by simp [impl_rootsOf.l0])
    | succ k1 =>
     have H := HA.out
     clear HA
     simp only [impl_rootsOf.l0] at H
     by_cases c8 : x14_1 < (y176.length : Int)
     ·rw [if_pos c8] at H
      have c8b0 : decide (x14_1 < (y176.length : Int)) = true := decide_eq_true c8
      try (have c8b0h := c8b0; simp only [hl5_1] at c8b0h)
      try (have c8b0h := c8b0; simp only [hl5_2] at c8b0h)
      try (have c8b0h := c8b0; simp only [hl5_3] at c8b0h)
      clear c8
      by_cases c9 : 0 ≤ x14_1
      ·rw [if_pos c9] at H
       have c9b0 : decide (0 ≤ x14_1) = true := decide_eq_true c9
       clear c9
       by_cases c10 : x14_1 < (x5_1.length : Int)
       ·rw [if_pos c10] at H
        have c10b0 : decide (x14_1 < (x5_1.length : Int)) = true := decide_eq_true c10
        try (have c10b0h := c10b0; simp only [hl5_1] at c10b0h)
        try (have c10b0h := c10b0; simp only [hl5_2] at c10b0h)
        try (have c10b0h := c10b0; simp only [hl5_3] at c10b0h)
        clear c10
        obtain ⟨y179, hy179⟩ : ∃ y_ : List Int, y_ = (x5_1.set (x14_1 : Int).toNat x14_1) := ⟨_, rfl⟩
        replace H : (impl_rootsOf.l0 k1 a0 l1 y179 (y176.length : Int) (wrap64 (x14_1 + 1))) = some r := by first | (rw [hy179]; with_reducible exact H) | (have H2_ := (Option.bind_some _ _).symm.trans H; rw [hy179]; with_reducible exact H2_) | (have H2_ := (Option.bind_some _ _).symm.trans H; with_reducible exact H2_) | with_reducible exact H | (rw [hy179]; exact H) | exact H
        have Ny179 := Aside0.mk hy179
        clear hy179
        have H' := Aside0.mk H
        clear H
        have p11 : 0 ≤ (x14_1 : Int) := od
        have q11 : (x14_1 : Int) < ((x5_1.length : Int) : Int) := od
        obtain ⟨go11, co11, eo11, gb11, gl11, cl11, HG11⟩ := Kd.R_form HO_5.out (by omega)
        (first | cases eo11 | (injection eo11 with ea_ en_ ec_; (first | subst ea_ | (injection ea_ with ea_; subst ea_)); subst ec_; clear en_))
        have GB11 := Aside0.mk gb11
        have GG11 := Aside0.mk HG11
        clear gb11 gl11 HG11
        obtain ⟨hx11_0, hf11_0⟩ := Kd.R_celln 0 HO_5.out (x14_1 : Int) p11 q11
        replace p11 := eq_true p11
        replace q11 := eq_true q11
        have HP12 := Kd.R_putg HO_5.out (x14_1 : Int) x14_1
        go_wp2_with (first | ((with_reducible refine gate_store (t := 3) (p := 20) rfl ?_); refine store_event (t := 3) (p := 20) (v := ?vo_w13) (w1 := (wr.setCell ⟨go11, (x14_1 : Int).toNat, none⟩ (.int .i64 x14_1))) ?hg ?ho ?hn ?hr ?_; (case ho => rfl); (case hg => rfl); (case hn => rfl); (case hr => first | (go_simp; done) | (go_simp; rfl)); intro w13 hw; have hg : wr.grownBy w13 (some go11) := (by rw [hw]; exact HP12.2); have hp_ : Kd.R (Kd.int .i64) 3 w13 w.heap.size (fun _ => True) (.slice (some ⟨go11, 0, none⟩) x5_1.length co7) y179 := (by rw [hw, Ny179.out]; exact HP12.1); clear HP12; have n0_ := Aside0.mk (hp_); have n1_ := Aside0.mk ((by rw [hw]; exact below_set (HB.out) GB11.out : Below w.heap.size w w13)); clear HO_5; clear HB; have HO_5 := n0_; have HB := n1_; clear n0_ n1_; clear hg hw hp_))
        (try simp only [← hl5_1])
        go_roundg k1
        case measure => have := HK1.out; omega
        case rel => exact ⟨(y179), (wrap64 (x14_1 + 1)), fs, H', ⟨by have := HK1.out; omega⟩, ⟨by (try simp only [hl5_1]); (with_reducible repeat (first | apply Kd.R_alloc | apply Kd.R_drewN | apply Kd.R_drew)); exact HO_5.out⟩, ⟨bw HB.out⟩⟩
       ·rw [if_neg c10] at H
        exact absurd H (by simp)
      ·rw [if_neg c9] at H
       exact absurd H (by simp)
     ·rw [if_neg c8] at H
      have c8b0 : decide (x14_1 < (y176.length : Int)) = false := decide_eq_false c8
      try (have c8b0h := c8b0; simp only [hl5_1] at c8b0h)
      try (have c8b0h := c8b0; simp only [hl5_2] at c8b0h)
      try (have c8b0h := c8b0; simp only [hl5_3] at c8b0h)
      clear c8
      have H' := Aside0.mk H
      clear H
      go_wp2
      go_loopg [23] k1 (fun kq v23 w' => ∃ (x5_2 : List Int) (x23_2 : Int), v23 = .int .i64 x23_2 ∧ Aside0 (impl_rootsOf.l1 kq l1 x5_2 a0 x23_2 = some r) ∧ Aside0 (kq ≤ k1) ∧ Aside0 (Kd.R (Kd.int .i64) 3 w' w.heap.size (fun _ => True) (.slice Ao7 x5_1.length co7) x5_2) ∧ Aside0 (Below w.heap.size w w'))
      case atStart => exact ⟨(x5_1), (0), fs, H', ⟨Nat.le_refl _⟩, ⟨by (try simp only [hl5_1]); (with_reducible repeat (first | apply Kd.R_alloc | apply Kd.R_drewN | apply Kd.R_drew)); exact HO_5.out⟩, ⟨bw HB.out⟩⟩
      case round =>
       clear H'
       try clear c1
       try clear p1
       try clear q1
       try clear hx1
       try clear p2
       try clear c3
       try clear c3b0
       try clear c3b1
       try clear c4
       try clear c4b0
       try clear c4b1
       try clear p6
       try clear c7
       try clear c8
       try clear c8b0
       try clear c9
       try clear c9b0
       try clear c10
       try clear c10b0
       try clear p11
       try clear q11
       try clear hx11
       try clear hf11
       try clear hx11_0
       try clear p11
       try clear p2
       try clear q11
       obtain ⟨x5_2, x23_2, rfl, HA, HK2, HO_5, HB⟩ := hrel
       have hl5_2 := (Kd.R_reads' HO_5.out).1
       rw [hl5_2] at HO_5
       (try simp only [hl5_2])
       cases gk with
       | zero => exact absurd HA.out (by simp [impl_rootsOf.l1])
       | succ k2 =>
        have H := HA.out
        clear HA
        simp only [impl_rootsOf.l1] at H
        by_cases c14 : x23_2 < a0
        ·rw [if_pos c14] at H
         have c14b0 : decide (x23_2 < a0) = true := decide_eq_true c14
         clear c14
         have H' := Aside0.mk H
         clear H
         go_wp2
         go_loopg [27] k2 (fun kq v27 w' => ∃ (x5_3 : List Int) (x27_3 : Int), v27 = .int .i64 x27_3 ∧ Aside0 (impl_rootsOf.l2 kq l1 x5_3 a0 x23_2 l1 (l1.length : Int) x27_3 = some r) ∧ Aside0 (kq ≤ k2) ∧ Aside0 (Kd.R (Kd.int .i64) 3 w' w.heap.size (fun _ => True) (.slice Ao7 x5_2.length co7) x5_3) ∧ Aside0 (Below w.heap.size w w'))
         case atStart => exact ⟨(x5_2), (0), fs, H', ⟨Nat.le_refl _⟩, ⟨by (try simp only [hl5_1]); (try simp only [hl5_2]); (with_reducible repeat (first | apply Kd.R_alloc | apply Kd.R_drewN | apply Kd.R_drew)); exact HO_5.out⟩, ⟨bw HB.out⟩⟩
         case round =>
          clear H'
          try clear c1
          try clear p1
          try clear q1
          try clear hx1
          try clear p2
          try clear c3
          try clear c3b0
          try clear c3b1
          try clear c4
          try clear c4b0
          try clear c4b1
          try clear p6
          try clear c7
          try clear c8
          try clear c8b0
          try clear c9
          try clear c9b0
          try clear c10
          try clear c10b0
          try clear p11
          try clear q11
          try clear hx11
          try clear hf11
          try clear c14
          try clear c14b0
          try clear hx11_0
          try clear p1
          try clear p11
          try clear p2
          try clear p6
          try clear q1
          try clear q11
          obtain ⟨x5_3, x27_3, rfl, HA, HK3, HO_5, HB⟩ := hrel
          have hl5_3 := (Kd.R_reads' HO_5.out).1
          rw [hl5_3] at HO_5
          (try simp only [hl5_3])
          cases gk with
          | zero => exact absurd HA.out (by simp [impl_rootsOf.l2])
          | succ k3 =>
           have H := HA.out
           clear HA
           simp only [impl_rootsOf.l2] at H
           by_cases c15 : x27_3 < (l1.length : Int)
           ·rw [if_pos c15] at H
            have c15b0 : decide (x27_3 < (l1.length : Int)) = true := decide_eq_true c15
            try (have c15b0h := c15b0; simp only [hl5_1] at c15b0h)
            try (have c15b0h := c15b0; simp only [hl5_2] at c15b0h)
            try (have c15b0h := c15b0; simp only [hl5_3] at c15b0h)
            clear c15
            by_cases c16 : 0 ≤ x27_3
            ·rw [if_pos c16] at H
             have c16b0 : decide (0 ≤ x27_3) = true := decide_eq_true c16
             clear c16
             by_cases c17 : x27_3 < (l1.length : Int)
             ·rw [if_pos c17] at H
              have c17b0 : decide (x27_3 < (l1.length : Int)) = true := decide_eq_true c17
              try (have c17b0h := c17b0; simp only [hl5_1] at c17b0h)
              try (have c17b0h := c17b0; simp only [hl5_2] at c17b0h)
              try (have c17b0h := c17b0; simp only [hl5_3] at c17b0h)
              clear c17
              by_cases c18 : 0 ≤ ((rd_T44 l1 x27_3).f0)
              ·rw [if_pos c18] at H
               have c18b0 : decide (0 ≤ ((rd_T44 l1 x27_3).f0)) = true := decide_eq_true c18
               clear c18
               by_cases c19 : ((rd_T44 l1 x27_3).f0) < (x5_3.length : Int)
               ·rw [if_pos c19] at H
                have c19b0 : decide (((rd_T44 l1 x27_3).f0) < (x5_3.length : Int)) = true := decide_eq_true c19
                try (have c19b0h := c19b0; simp only [hl5_1] at c19b0h)
                try (have c19b0h := c19b0; simp only [hl5_2] at c19b0h)
                try (have c19b0h := c19b0; simp only [hl5_3] at c19b0h)
                clear c19
                by_cases c20 : 0 ≤ ((rd_T44 l1 x27_3).f1)
                ·rw [if_pos c20] at H
                 have c20b0 : decide (0 ≤ ((rd_T44 l1 x27_3).f1)) = true := decide_eq_true c20
                 clear c20
                 by_cases c21 : ((rd_T44 l1 x27_3).f1) < (x5_3.length : Int)
                 ·rw [if_pos c21] at H
                  have c21b0 : decide (((rd_T44 l1 x27_3).f1) < (x5_3.length : Int)) = true := decide_eq_true c21
                  try (have c21b0h := c21b0; simp only [hl5_1] at c21b0h)
                  try (have c21b0h := c21b0; simp only [hl5_2] at c21b0h)
                  try (have c21b0h := c21b0; simp only [hl5_3] at c21b0h)
                  clear c21
                  obtain ⟨ji22, hji22⟩ : ∃ j_ : Int, (mn (rd x5_3 ((rd_T44 l1 x27_3).f0)) (rd x5_3 ((rd_T44 l1 x27_3).f1))) = j_ := ⟨_, rfl⟩
                  replace H : (impl_rootsOf.l2 k3 l1 ((x5_3.set (((rd_T44 l1 x27_3).f0) : Int).toNat (ji22)).set (((rd_T44 l1 x27_3).f1) : Int).toNat (ji22)) a0 x23_2 l1 (l1.length : Int) (wrap64 (x27_3 + 1))) = some r := by first | (rw [hji22] at H; exact H) | (simp only [hji22] at H ⊢; exact H)
                  have hji22_ : (if (rd x5_3 ((rd_T44 l1 x27_3).f1)) < (rd x5_3 ((rd_T44 l1 x27_3).f0)) then (rd x5_3 ((rd_T44 l1 x27_3).f1)) else (rd x5_3 ((rd_T44 l1 x27_3).f0))) = ji22 := hji22
                  obtain ⟨y184, hy184⟩ : ∃ y_ : List Int, y_ = (x5_3.set (((rd_T44 l1 x27_3).f0) : Int).toNat (ji22)) := ⟨_, rfl⟩
                  replace H : (impl_rootsOf.l2 k3 l1 (y184.set (((rd_T44 l1 x27_3).f1) : Int).toNat (ji22)) a0 x23_2 l1 (l1.length : Int) (wrap64 (x27_3 + 1))) = some r := by first | (rw [hy184]; with_reducible exact H) | (have H2_ := (Option.bind_some _ _).symm.trans H; rw [hy184]; with_reducible exact H2_) | (have H2_ := (Option.bind_some _ _).symm.trans H; with_reducible exact H2_) | with_reducible exact H | (rw [hy184]; exact H) | exact H
                  have Ny184 := Aside0.mk hy184
                  clear hy184
                  obtain ⟨y185, hy185⟩ : ∃ y_ : List Int, y_ = (y184.set (((rd_T44 l1 x27_3).f1) : Int).toNat (ji22)) := ⟨_, rfl⟩
                  replace H : (impl_rootsOf.l2 k3 l1 y185 a0 x23_2 l1 (l1.length : Int) (wrap64 (x27_3 + 1))) = some r := by first | (rw [hy185]; with_reducible exact H) | (have H2_ := (Option.bind_some _ _).symm.trans H; rw [hy185]; with_reducible exact H2_) | (have H2_ := (Option.bind_some _ _).symm.trans H; with_reducible exact H2_) | with_reducible exact H | (rw [hy185]; exact H) | exact H
                  have Ny185 := Aside0.mk hy185
                  clear hy185
                  have H' := Aside0.mk H
                  clear H
                  have p180 : 0 ≤ (x27_3 : Int) := od
                  have q180 : x27_3 < (l1.length : Int) := od
                  obtain ⟨ad180, e180, hx180_0, hx180_1, hx180_2⟩ := at_T44 HR1.out x27_3 p180 q180
                  cases e180
                  (try replace hx180_0 := (HB.out.cell (World.block_lt_of_cell? w _ hx180_0)).trans hx180_0)
                  (try replace hx180_1 := (HB.out.cell (World.block_lt_of_cell? w _ hx180_1)).trans hx180_1)
                  (try replace hx180_2 := (HB.out.cell (World.block_lt_of_cell? w _ hx180_2)).trans hx180_2)
                  replace p180 := eq_true p180
                  replace q180 := eq_true q180
                  try go_wp2_with (first | ((with_reducible refine gate_dst (N := 8) rfl ?_); refine box_event ?hg (N := 8) ?hd (cs := #[.int .i64 0, .int .i64 0, .int .i64 0]) (t := 44) ?hr ?_; (case hd => rfl); (case hg => rfl); (case hr => first | (go_simp; done) | (go_simp; rfl)); intro gb181 hg w25 hbox hb; have n0_ := Aside0.mk (Kd.R_below (ru HO_5.out) hb); have n1_ := Aside0.mk (below_step (bw HB.out) hb); have n2_ := Aside0.mk (hbox); have n3_ := Aside0.mk ((by rw [hg]; exact (below_size (bw HB.out)) : w.heap.size ≤ gb181)); have n4_ := Aside0.mk ((by rw [hg]; exact (below_size (bw HB.out)) : w.heap.size ≤ gb181)); clear HO_5; clear HB; have HO_5 := n0_; have HB := n1_; have BK181 := n2_; have GW181 := n3_; have GE181 := n4_; clear n0_ n1_ n2_ n3_ n4_; clear hb hbox hg; have hcz26_0 : w25.cell? ⟨gb181, 0, none⟩ = some (.int .i64 0) := (blk_cell BK181.out 0).trans rfl; have hcz26_1 : w25.cell? ⟨gb181, 1, none⟩ = some (.int .i64 0) := (blk_cell BK181.out 1).trans rfl; have hcz26_2 : w25.cell? ⟨gb181, 2, none⟩ = some (.int .i64 0) := (blk_cell BK181.out 2).trans rfl; have hfz26_0 := blk_frozen BK181.out 0; have hfz26_1 := blk_frozen BK181.out 1; have hfz26_2 := blk_frozen BK181.out 2))
                  have n0_ : Aside0 (Kd.R (Kd.int .i64) 3 (((w25.setCell ⟨gb181, 0, none⟩ (.int .i64 ((rd_T44 l1 x27_3).f0))).setCell ⟨gb181, 1, none⟩ (.int .i64 ((rd_T44 l1 x27_3).f1))).setCell ⟨gb181, 2, none⟩ (.int .i64 ((rd_T44 l1 x27_3).f2))) w.heap.size (fun _ => True) (.slice Ao7 x5_3.length co7) x5_3) := ⟨by (with_reducible repeat (first | apply Kd.R_alloc | apply Kd.R_drewN | apply Kd.R_drew)); exact Kd.R_mono (Kd.R_far (p := ⟨gb181, 2, none⟩) (Kd.R_far (p := ⟨gb181, 1, none⟩) (Kd.R_far (p := ⟨gb181, 0, none⟩) (Kd.R_types HO_5.out BK181.out (by decide)) (fun _ hk => hk.2) (.int .i64 ((rd_T44 l1 x27_3).f0))) (fun _ hk => hk.2) (.int .i64 ((rd_T44 l1 x27_3).f1))) (fun _ hk => hk.2) (.int .i64 ((rd_T44 l1 x27_3).f2))) (fun _ hk => trivial)⟩
                  have n1_ : Aside0 ((((w25.setCell ⟨gb181, 0, none⟩ (.int .i64 ((rd_T44 l1 x27_3).f0))).setCell ⟨gb181, 1, none⟩ (.int .i64 ((rd_T44 l1 x27_3).f1))).setCell ⟨gb181, 2, none⟩ (.int .i64 ((rd_T44 l1 x27_3).f2))).heap[gb181]? = some (.cells #[.int .i64 ((rd_T44 l1 x27_3).f0), .int .i64 ((rd_T44 l1 x27_3).f1), .int .i64 ((rd_T44 l1 x27_3).f2)] 44 (0, 0))) := ⟨by (with_reducible repeat (first | refine blk_drewN ?_ _ | refine blk_drew ?_ | refine blk_alloc ?_ _)); refine blk_put (cs := #[.int .i64 ((rd_T44 l1 x27_3).f0), .int .i64 ((rd_T44 l1 x27_3).f1), .int .i64 0]) ?_ 2 _ rfl; (with_reducible repeat (first | refine blk_drewN ?_ _ | refine blk_drew ?_ | refine blk_alloc ?_ _)); refine blk_put (cs := #[.int .i64 ((rd_T44 l1 x27_3).f0), .int .i64 0, .int .i64 0]) ?_ 1 _ rfl; (with_reducible repeat (first | refine blk_drewN ?_ _ | refine blk_drew ?_ | refine blk_alloc ?_ _)); refine blk_put (cs := #[.int .i64 0, .int .i64 0, .int .i64 0]) ?_ 0 _ rfl; (with_reducible repeat (first | refine blk_drewN ?_ _ | refine blk_drew ?_ | refine blk_alloc ?_ _)); exact BK181.out⟩
                  have n2_ : Aside0 (Below w.heap.size w (((w25.setCell ⟨gb181, 0, none⟩ (.int .i64 ((rd_T44 l1 x27_3).f0))).setCell ⟨gb181, 1, none⟩ (.int .i64 ((rd_T44 l1 x27_3).f1))).setCell ⟨gb181, 2, none⟩ (.int .i64 ((rd_T44 l1 x27_3).f2)))) := ⟨bw HB.out⟩
                  (try clear HO_5)
                  (try clear BK181)
                  (try clear HB)
                  generalize (((w25.setCell ⟨gb181, 0, none⟩ (.int .i64 ((rd_T44 l1 x27_3).f0))).setCell ⟨gb181, 1, none⟩ (.int .i64 ((rd_T44 l1 x27_3).f1))).setCell ⟨gb181, 2, none⟩ (.int .i64 ((rd_T44 l1 x27_3).f2))) = w27 at n0_ n1_ n2_ ⊢
                  have HO_5 := n0_
                  have BK181 := n1_
                  have HB := n2_
                  clear n0_ n1_ n2_
                  have n0_ := Aside0.mk (Kd.R_drew HO_5.out)
                  have n1_ := Aside0.mk (blk_drew BK181.out)
                  have n2_ := Aside0.mk (below_drew1 HB.out)
                  clear HO_5
                  clear BK181
                  clear HB
                  have HO_5 := n0_
                  have BK181 := n1_
                  have HB := n2_
                  clear n0_ n1_ n2_
                  have p182 : 0 ≤ (((rd_T44 l1 x27_3).f0) : Int) := od
                  have q182 : ((rd_T44 l1 x27_3).f0) < (x5_3.length : Int) := od
                  obtain ⟨ad182, e182, hx182_0⟩ := Kd.at_int (Kd.R_reads' HO_5.out).2.2 ((rd_T44 l1 x27_3).f0) p182 q182
                  cases e182
                  replace p182 := eq_true p182
                  replace q182 := eq_true q182
                  have p183 : 0 ≤ (((rd_T44 l1 x27_3).f1) : Int) := od
                  have q183 : ((rd_T44 l1 x27_3).f1) < (x5_3.length : Int) := od
                  obtain ⟨ad183, e183, hx183_0⟩ := Kd.at_int (Kd.R_reads' HO_5.out).2.2 ((rd_T44 l1 x27_3).f1) p183 q183
                  obtain rfl : ad182 = ad183 := (by injection e183)
                  replace p183 := eq_true p183
                  replace q183 := eq_true q183
                  refine start_ (n := 12) (S := fun w' => w'.cell? ⟨gb181, 0, none⟩ = some (.int .i64 ((rd_T44 l1 x27_3).f0)) ∧ w'.cell? ⟨gb181, 1, none⟩ = some (.int .i64 ((rd_T44 l1 x27_3).f1)) ∧ w'.cell? ⟨gb181, 2, none⟩ = some (.int .i64 ((rd_T44 l1 x27_3).f2)) ∧ w'.cell? (ad182.add (((rd_T44 l1 x27_3).f0)).toNat) = some (.int .i64 (rd x5_3 ((rd_T44 l1 x27_3).f0))) ∧ w'.cell? (ad182.add (((rd_T44 l1 x27_3).f1)).toNat) = some (.int .i64 (rd x5_3 ((rd_T44 l1 x27_3).f1)))) (ds := []) (bl 12 0) (by kernel_rfl) rfl (by kernel_rfl) ⟨(blk_cell BK181.out 0).trans rfl, (blk_cell BK181.out 1).trans rfl, (blk_cell BK181.out 2).trans rfl, hx182_0, hx183_0⟩ (fun hHeld => ?_); refine with_tabW impl_rootsOf.tab12 impl_rootsOf.bits12 (fun HT_ HW_ => ?_)
                  generalize w27.drew = w28 at HO_5 BK181 HB hx182_0 hx183_0 hHeld ⊢
                  refine pA 0 (some 31) (bl 12 1) HT_ (h := ?_)
                  refine pA 1 (some 32) (bl 12 3) HT_ (h := ?_)
                  refine pA 5 (some 36) (bl 12 35) HT_ (h := ?_)
                  refine pA 6 (some 37) (bl 12 99) HT_ (h := ?_)
                  refine tA 2 (some 33) (bl 12 103) HT_ HW_ hHeld (h := ?_)
                  refine pA 3 (some 34) (bl 12 111) HT_ (h := ?_)
                  refine tA 4 (some 35) (bl 12 127) HT_ HW_ hHeld (h := ?_)
                  refine tA 7 (some 38) (bl 12 255) HT_ HW_ hHeld (h := ?_)
                  refine pA 8 (some 39) (bl 12 511) HT_ (h := ?_)
                  refine tA 9 (some 40) (bl 12 1023) HT_ HW_ hHeld (h := ?_)
                  refine pA 10 (some 41) (bl 12 2047) HT_ (h := ?_)
                  refine pA 11 (some 9) (bl 12 4095) HT_ (h := ?_)
                  refine done_ (done_of HT_.out (by kernel_rfl)) ?_
                  try go_wp2
                  have n0_ := Aside0.mk (Kd.R_drew HO_5.out)
                  have n1_ := Aside0.mk (blk_drew BK181.out)
                  have n2_ := Aside0.mk (below_drew1 HB.out)
                  clear HO_5
                  clear BK181
                  clear HB
                  have HO_5 := n0_
                  have BK181 := n1_
                  have HB := n2_
                  clear n0_ n1_ n2_
                  have p23 : 0 ≤ (((rd_T44 l1 x27_3).f0) : Int) := od
                  have q23 : (((rd_T44 l1 x27_3).f0) : Int) < ((x5_3.length : Int) : Int) := od
                  obtain ⟨go23, co23, eo23, gb23, gl23, cl23, HG23⟩ := Kd.R_form HO_5.out (by omega)
                  (first | cases eo23 | (injection eo23 with ea_ en_ ec_; (first | subst ea_ | (injection ea_ with ea_; subst ea_)); subst ec_; clear en_))
                  have GB23 := Aside0.mk gb23
                  have GG23 := Aside0.mk HG23
                  clear gb23 gl23 HG23
                  (first | simp only [add_plain] at hx182_0 | skip)
                  (first | simp only [add_plain] at hx183_0 | skip)
                  obtain ⟨hx23_0, hf23_0⟩ := Kd.R_celln 0 HO_5.out (((rd_T44 l1 x27_3).f0) : Int) p23 q23
                  replace p23 := eq_true p23
                  replace q23 := eq_true q23
                  have HP30 := Kd.R_putn HO_5.out (((rd_T44 l1 x27_3).f0) : Int) ji22
                  rw [← Ny184.out] at HP30
                  have HQ30 := Aside0.mk HP30
                  clear HP30
                  have p24 : 0 ≤ (((rd_T44 l1 x27_3).f1) : Int) := od
                  have q24 : (((rd_T44 l1 x27_3).f1) : Int) < ((x5_3.length : Int) : Int) := od
                  obtain ⟨hx24_0, hf24_0⟩ := Kd.R_celln 0 HQ30.out (((rd_T44 l1 x27_3).f1) : Int) p24 q24
                  replace p24 := eq_true p24
                  replace q24 := eq_true q24
                  have HP31 := Kd.R_putn HQ30.out (((rd_T44 l1 x27_3).f1) : Int) ji22
                  rw [← Ny185.out] at HP31
                  have HQ31 := Aside0.mk HP31
                  clear HP31
                  refine start_ (n := 12) (S := fun w' => w'.cell? ⟨gb181, 0, none⟩ = some (.int .i64 ((rd_T44 l1 x27_3).f0)) ∧ w'.cell? ⟨gb181, 1, none⟩ = some (.int .i64 ((rd_T44 l1 x27_3).f1)) ∧ w'.cell? ⟨gb181, 2, none⟩ = some (.int .i64 ((rd_T44 l1 x27_3).f2))) (ds := [11]) (bl 12 0) (by kernel_rfl) rfl (by kernel_rfl) ⟨(blk_cell BK181.out 0).trans rfl, (blk_cell BK181.out 1).trans rfl, (blk_cell BK181.out 2).trans rfl⟩ (fun hHeld => ?_); refine with_tabW impl_rootsOf.tab13 impl_rootsOf.bits13 (fun HT_ HW_ => ?_)
                  generalize w28.drew = w29 at HO_5 BK181 HB GG23 HQ30 HQ31 hf23_0 hf24_0 hx182_0 hx183_0 hx23_0 hx24_0 hHeld ⊢
                  refine pA 0 (some 42) (bl 12 1) HT_ (h := ?_)
                  refine pA 1 (some 43) (bl 12 3) HT_ (h := ?_)
                  refine pA 3 (some 45) (bl 12 11) HT_ (h := ?_)
                  refine pA 4 (some 46) (bl 12 27) HT_ (h := ?_)
                  refine pA 6 (some 48) (bl 12 91) HT_ (h := ?_)
                  refine pA 7 (some 49) (bl 12 219) HT_ (h := ?_)
                  refine tA 2 (some 44) (bl 12 223) HT_ HW_ hHeld (h := ?_)
                  refine pA 8 (some 50) (bl 12 479) HT_ (h := ?_)
                  refine tA 5 (some 47) (bl 12 511) HT_ HW_ hHeld (h := ?_)
                  refine one_ (i := 9) (N := none) (bl 12 1023) rfl rfl (one_of HT_.out (by kernel_rfl)) (by decide) (fun K hK => ?_)
                  refine skip_ (w1 := ?_) (by rfl) rfl ?_ ?_
                  rotate_left
                  ·go_simp
                   rfl
                  refine hK.out _ _ ⟨((cell_far (p := ⟨_, _, none⟩) (fun e_ => (Kd.R_ne HO_5.out BK181.out (by decide)) (congrArg some e_)) _).trans (hHeld.1)), ((cell_far (p := ⟨_, _, none⟩) (fun e_ => (Kd.R_ne HO_5.out BK181.out (by decide)) (congrArg some e_)) _).trans (hHeld.2.1)), ((cell_far (p := ⟨_, _, none⟩) (fun e_ => (Kd.R_ne HO_5.out BK181.out (by decide)) (congrArg some e_)) _).trans (hHeld.2.2))⟩ (fun hHeld => ?_)
                  clear hK K
                  refine pA 10 (some 51) (bl 12 2047) HT_ (h := ?_)
                  refine last_ (i := 11) (N := none) (bl 12 4095) rfl rfl (one_of HT_.out (by kernel_rfl)) (by decide) (fun K hK => ?_)
                  refine skip_ (w1 := ?_) (by rfl) rfl ?_ ?_
                  rotate_left
                  ·go_simp
                   rfl
                  refine hK.out _ _ ?_
                  clear hK K
                  refine done_ (done_of HT_.out (by kernel_rfl)) ?_
                  try go_wp2
                  (try simp only [← hl5_3])
                  go_roundg k3
                  case measure => have := HK1.out; have := HK2.out; have := HK3.out; omega
                  case rel => exact ⟨(y185), (wrap64 (x27_3 + 1)), fs, H', ⟨by have := HK1.out; have := HK2.out; have := HK3.out; omega⟩, ⟨by (try simp only [hl5_1]); (try simp only [hl5_2]); (try simp only [hl5_3]); (with_reducible repeat (first | apply Kd.R_alloc | apply Kd.R_drewN | apply Kd.R_drew)); exact HQ31.out⟩, ⟨bw HB.out⟩⟩
                 ·rw [if_neg c21] at H
                  exact absurd H (by simp)
                ·rw [if_neg c20] at H
                 exact absurd H (by simp)
               ·rw [if_neg c19] at H
                exact absurd H (by simp)
              ·rw [if_neg c18] at H
               exact absurd H (by simp)
             ·rw [if_neg c17] at H
              exact absurd H (by simp)
            ·rw [if_neg c16] at H
             exact absurd H (by simp)
           ·rw [if_neg c15] at H
            have c15b0 : decide (x27_3 < (l1.length : Int)) = false := decide_eq_false c15
            try (have c15b0h := c15b0; simp only [hl5_1] at c15b0h)
            try (have c15b0h := c15b0; simp only [hl5_2] at c15b0h)
            try (have c15b0h := c15b0; simp only [hl5_3] at c15b0h)
            clear c15
            have H' := Aside0.mk H
            clear H
            go_wp2
            (try simp only [← hl5_2, ← hl5_3])
            go_roundg k3
            case measure => have := HK1.out; have := HK2.out; have := HK3.out; omega
            case rel => exact ⟨(x5_3), (wrap64 (x23_2 + 1)), fs, H', ⟨by have := HK1.out; have := HK2.out; have := HK3.out; omega⟩, ⟨by (try simp only [hl5_1]); (try simp only [hl5_2]); (try simp only [hl5_3]); (with_reducible repeat (first | apply Kd.R_alloc | apply Kd.R_drewN | apply Kd.R_drew)); exact HO_5.out⟩, ⟨bw HB.out⟩⟩
        ·rw [if_neg c14] at H
         have c14b0 : decide (x23_2 < a0) = false := decide_eq_false c14
         clear c14
         obtain rfl := Option.some.inj H
         go_wp2
         go_ret
         exact ⟨_, fe, ru HO_5.out, bw HB.out⟩
  ·rw [if_neg c4] at H
   exact absurd H (by simp)
 ·rw [if_neg c3] at H
  exact absurd H (by simp)

end Go.Proofs.Ytegnghbgkiddoaa.PA
