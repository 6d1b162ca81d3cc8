-- Laid by this session's own program (pr.py) over the translation; Lean checks it.
import Derived.Test.YtegnghbgkiddoaaPA0
import Derived.Test.YtegnghbgkiddoaaHSq
import Derived.Test.YtegnghbgkiddoaaHSq
namespace Go.Proofs.Ytegnghbgkiddoaa.PA
open Go.RowKit Go.Proofs.YtegnghbgkiddoaaW.PrintWords Go.Proofs.YtegnghbgkiddoaaW.PrintLast Go.Proofs.YtegnghbgkiddoaaW.PrintMore
attribute [local go_sem] max2_int min2_int max_two min_two max_three min_three max_four min_four   -- for this text's walks alone
set_option linter.unusedVariables false
set_option linter.unusedSimpArgs false

/-! ### spec_l7Joined: function 104 -/
-- IMPORT HSq
mutual
def spec_l7Joined.l0 : Nat → List (S44) → List Bool → Int → Int → Option (List Bool)
 | 0, _, _, _, _ => none
 | k + 1, x1, x7, x14, x15 => if x15 < x14 then (spec_l7Joined.l1 k x1 x7 0 x14 x15) else (some x7)
def spec_l7Joined.l1 : Nat → List (S44) → List Bool → Int → Int → Int → Option (List Bool)
 | 0, _, _, _, _, _ => none
 | k + 1, x1, x7, x8, x14, x15 => if x8 < (x1.length : Int) then (if 0 ≤ x8 then (if 0 ≤ ((rd_T44 x1 x8).f0) then (if ((rd_T44 x1 x8).f0) < (x7.length : Int) then (if rdOf false x7 ((rd_T44 x1 x8).f0) = true then (if 0 ≤ ((rd_T44 x1 x8).f1) then (if ((rd_T44 x1 x8).f1) < (x7.length : Int) then (spec_l7Joined.l1 k x1 ((x7.set (((rd_T44 x1 x8).f0) : Int).toNat true).set (((rd_T44 x1 x8).f1) : Int).toNat true) (wrap64 (x8 + 1)) x14 x15) else (none)) else (none)) else (if 0 ≤ ((rd_T44 x1 x8).f1) then (if ((rd_T44 x1 x8).f1) < (x7.length : Int) then (if rdOf false x7 ((rd_T44 x1 x8).f1) = true then (spec_l7Joined.l1 k x1 ((x7.set (((rd_T44 x1 x8).f0) : Int).toNat true).set (((rd_T44 x1 x8).f1) : Int).toNat true) (wrap64 (x8 + 1)) x14 x15) else (spec_l7Joined.l1 k x1 x7 (wrap64 (x8 + 1)) x14 x15)) else (none)) else (none))) else (none)) else (none)) else (none)) else (spec_l7Joined.l0 k x1 x7 x14 (wrap64 (x15 + 1)))
end
def spec_l7Joined.f (k : Nat) (a0 : Int) (l1 : List (S44)) (a2 : Int) : Option (List Bool) := if 0 ≤ a0 then (if (a0 : Int).toNat ≤ 281474976710656 then ((some (List.replicate (a0 : Int).toNat false : List Bool)).bind fun y107 => (if 0 ≤ a2 then (if a2 < (y107.length : Int) then (spec_l7Joined.l0 k l1 (y107.set (a2 : Int).toNat true) a0 0) else (none)) else (none))) else (none)) else (none)
set_option maxHeartbeats 8000000 in
set_option maxRecDepth 100000 in
theorem spec_l7Joined.calls (k : Nat) (a0 : Int) (A1 : Option Addr) (c1 : Nat) (l1 : List (S44)) (a2 : Int) (r : List Bool) (w : World) (hr1 : Kd.C k44 w A1 l1.length l1) (hc1 : l1.length ≤ c1) (h : spec_l7Joined.f k a0 l1 a2 = some r) :
  Calls Try.prog 104 #[.int .i64 a0, .slice A1 l1.length c1, .int .i64 a2] w fun e w' => ∃ v0_ : Value, e = .returned (v0_) ∧ Kd.R Kd.bool 4 w' w.heap.size (fun _ => True) v0_ r ∧ Below w.heap.size w w' := by
 have HR1 := Aside0.mk hr1
 have HC1 := Aside0.mk hc1
 clear hr1 hc1
 have HB := Aside0.mk (Below.refl w.heap.size w)
 have H : (if 0 ≤ a0 then (if (a0 : Int).toNat ≤ 281474976710656 then ((some (List.replicate (a0 : Int).toNat false : List Bool)).bind fun y107 => (if 0 ≤ a2 then (if a2 < (y107.length : Int) then (spec_l7Joined.l0 k l1 (y107.set (a2 : Int).toNat true) a0 0) else (none)) else (none))) else (none)) else (none)) = some r := h
 clear h
 by_cases c4 : 0 ≤ a0
 ·rw [if_pos c4] at H
  have c4b0 := eq_true c4
  have c4b1 : decide (0 ≤ a0) = true := decide_eq_true c4
  clear c4
  by_cases c5 : (a0 : Int).toNat ≤ 281474976710656
  ·rw [if_pos c5] at H
   have c5b0 := eq_true c5
   have c5b1 : decide ((a0 : Int).toNat ≤ 281474976710656) = true := decide_eq_true c5
   clear c5
   obtain ⟨y107, hy107⟩ : ∃ y_ : List Bool, y_ = (List.replicate (a0 : Int).toNat false) := ⟨_, rfl⟩
   replace H : (if 0 ≤ a2 then (if a2 < (y107.length : Int) then (spec_l7Joined.l0 k l1 (y107.set (a2 : Int).toNat true) a0 0) else (none)) else (none)) = some r := by first | (rw [hy107]; with_reducible exact H) | (have H2_ := (Option.bind_some _ _).symm.trans H; rw [hy107]; with_reducible exact H2_) | (have H2_ := (Option.bind_some _ _).symm.trans H; with_reducible exact H2_) | with_reducible exact H | (rw [hy107]; exact H) | exact H
   have Ny107 := Aside0.mk hy107
   clear hy107
   by_cases c6 : 0 ≤ a2
   ·rw [if_pos c6] at H
    have c6b0 : decide (0 ≤ a2) = true := decide_eq_true c6
    clear c6
    by_cases c7 : a2 < (y107.length : Int)
    ·rw [if_pos c7] at H
     have c7b0 : decide (a2 < (y107.length : Int)) = true := decide_eq_true c7
     clear c7
     obtain ⟨y110, hy110⟩ : ∃ y_ : List Bool, y_ = (y107.set (a2 : Int).toNat true) := ⟨_, rfl⟩
     replace H : (spec_l7Joined.l0 k l1 y110 a0 0) = some r := by first | (rw [hy110]; with_reducible exact H) | (have H2_ := (Option.bind_some _ _).symm.trans H; rw [hy110]; with_reducible exact H2_) | (have H2_ := (Option.bind_some _ _).symm.trans H; with_reducible exact H2_) | with_reducible exact H | (rw [hy110]; exact H) | exact H
     have Ny110 := Aside0.mk hy110
     clear hy110
     have H' := Aside0.mk H
     clear H
     go_enter Try.func104, Try.ntmps104
     go_wp2_with (first | ((with_reducible refine gate_dst (N := 10) rfl ?_); refine Kd.R_make Kd.bool _ 4 rfl (N := 10) rfl 104 _ _ rfl a0 rfl rfl Try.underlying104 (.bool false) 1 info4 rfl (by decide) (by omega) false (ok := fun _ => True) (okp := fun _ => True) rfl (fun _ hk => hk) trivial od (Nat.le_trans (Nat.mul_le_mul_right _ (od : a0.toNat ≤ 281474976710656)) (by omega)) (Below.refl _ _) (Nat.le_refl _) ?_; intro v108 w9 ho10 hb hg_ hnew_; clear hg_ hnew_; (first | rw [← Ny107.out] at ho10 | (simp only [Int.reduceToNat] at ho10; rw [← Ny107.out] at ho10)); have n0_ := Aside0.mk (Kd.R_lower ho10 (below_size (bw HB.out))); have n1_ := Aside0.mk (below_step (bw HB.out) hb); clear HB; have HO109 := n0_; have HB := n1_; clear n0_ n1_; clear hb ho10; have p8 : 0 ≤ (a2 : Int) := od; have q8 : (a2 : Int) < ((y107.length : Int) : Int) := od; obtain ⟨go8, co8, eo8, gb8, gl8, cl8, HG8⟩ := Kd.R_form HO109.out (by omega); (first | cases eo8 | (injection eo8 with ea_ en_ ec_; (first | subst ea_ | (injection ea_ with ea_; subst ea_)); subst ec_; clear en_)); have GB8 := Aside0.mk gb8; have GG8 := Aside0.mk HG8; clear gb8 gl8 HG8; obtain ⟨hx8_0, hf8_0⟩ := Kd.R_celln false HO109.out (a2 : Int) p8 q8; replace p8 := eq_true p8; replace q8 := eq_true q8; obtain ⟨hy11_, hz11_⟩ := Kd.R_celln false HO109.out (a2 : Int) od od; have HP11 := Kd.R_putg HO109.out (a2 : Int) true) | ((with_reducible refine gate_store (t := 4) (p := 13) rfl ?_); refine store_event (t := 4) (p := 13) (v := ?vo_w12) (w1 := (w9.setCell ⟨go8, (a2 : Int).toNat, none⟩ (.bool true))) ?hg ?ho ?hn ?hr ?_; (case ho => rfl); (case hg => rfl); (case hn => rfl); (case hr => first | (go_simp; done) | (go_simp; rfl)); intro w12 hw; have hg : w9.grownBy w12 (some go8) := (by rw [hw]; exact HP11.2); have hp_ : Kd.R Kd.bool 4 w12 w.heap.size (fun _ => True) (.slice (some ⟨go8, 0, none⟩) y107.length co8) y110 := (by rw [hw, Ny110.out]; exact HP11.1); clear HP11; have n0_ := Aside0.mk (hp_); have n1_ := Aside0.mk ((by rw [hw]; exact below_set (HB.out) GB8.out : Below w.heap.size w w12)); clear HO109; clear HB; have HO109 := n0_; have HB := n1_; clear n0_ n1_; clear hg hw hp_))
     go_loopg [15] k (fun kq v15 w' => ∃ (x7_1 : List Bool) (x15_1 : Int), v15 = .int .i64 x15_1 ∧ Aside0 (spec_l7Joined.l0 kq l1 x7_1 a0 x15_1 = some r) ∧ Aside0 (kq ≤ k) ∧ Aside0 (Kd.R Kd.bool 4 w' w.heap.size (fun _ => True) (.slice (some ⟨go8, 0, none⟩) y107.length co8) x7_1) ∧ Aside0 (Below w.heap.size w w'))
     case atStart => exact ⟨(y110), (0), fs, H', ⟨Nat.le_refl _⟩, ⟨ru HO109.out⟩, ⟨bw HB.out⟩⟩
     case round =>
      clear H'
      try clear c1
      try clear p2
      try clear c4
      try clear c4b0
      try clear c4b1
      try clear c5
      try clear c5b0
      try clear c5b1
      try clear c6
      try clear c6b0
      try clear c7
      try clear c7b0
      try clear p8
      try clear q8
      try clear hx8
      try clear hf8
      try clear c10
      try clear hx8_0
      try clear p8
      try clear q8
      obtain ⟨x7_1, x15_1, rfl, HA, HK1, HO_7, HB⟩ := hrel
      have hl7_1 := (Kd.R_reads' HO_7.out).1
      rw [hl7_1] at HO_7
      (try simp only [hl7_1])
      cases gk with
      | zero => exact absurd HA.out (by simp [spec_l7Joined.l0])
      | succ k1 =>
       have H := HA.out
       clear HA
       simp only [spec_l7Joined.l0] at H
       by_cases c13 : x15_1 < a0
       ·rw [if_pos c13] at H
        have c13b0 : decide (x15_1 < a0) = true := decide_eq_true c13
        clear c13
        have H' := Aside0.mk H
        clear H
        go_wp2
        go_loopg [8] k1 (fun kq v8 w' => ∃ (x7_2 : List Bool) (x8_2 : Int), v8 = .int .i64 x8_2 ∧ Aside0 (spec_l7Joined.l1 kq l1 x7_2 x8_2 a0 x15_1 = some r) ∧ Aside0 (kq ≤ k1) ∧ Aside0 (Kd.R Kd.bool 4 w' w.heap.size (fun _ => True) (.slice (some ⟨go8, 0, none⟩) x7_1.length co8) x7_2) ∧ Aside0 (Below w.heap.size w w'))
        case atStart => exact ⟨(x7_1), (0), fs, H', ⟨Nat.le_refl _⟩, ⟨by (try simp only [hl7_1]); (with_reducible repeat (first | apply Kd.R_alloc | apply Kd.R_drewN | apply Kd.R_drew)); exact HO_7.out⟩, ⟨bw HB.out⟩⟩
        case round =>
         clear H'
         try clear c1
         try clear p2
         try clear c4
         try clear c4b0
         try clear c4b1
         try clear c5
         try clear c5b0
         try clear c5b1
         try clear c6
         try clear c6b0
         try clear c7
         try clear c7b0
         try clear p8
         try clear q8
         try clear hx8
         try clear hf8
         try clear c10
         try clear c13
         try clear c13b0
         try clear hx8_0
         try clear p2
         try clear p8
         try clear q8
         obtain ⟨x7_2, x8_2, rfl, HA, HK2, HO_7, HB⟩ := hrel
         have hl7_2 := (Kd.R_reads' HO_7.out).1
         rw [hl7_2] at HO_7
         (try simp only [hl7_2])
         cases gk with
         | zero => exact absurd HA.out (by simp [spec_l7Joined.l1])
         | succ k2 =>
          have H := HA.out
          clear HA
          simp only [spec_l7Joined.l1] at H
          by_cases c14 : x8_2 < (l1.length : Int)
          ·rw [if_pos c14] at H
           have c14b0 : decide (x8_2 < (l1.length : Int)) = true := decide_eq_true c14
           clear c14
           by_cases c15 : 0 ≤ x8_2
           ·rw [if_pos c15] at H
            have c15b0 : decide (0 ≤ x8_2) = true := decide_eq_true c15
            clear c15
            by_cases c16 : 0 ≤ ((rd_T44 l1 x8_2).f0)
            ·rw [if_pos c16] at H
             have c16b0 : decide (0 ≤ ((rd_T44 l1 x8_2).f0)) = true := decide_eq_true c16
             clear c16
             by_cases c17 : ((rd_T44 l1 x8_2).f0) < (x7_2.length : Int)
             ·rw [if_pos c17] at H
              have c17b0 : decide (((rd_T44 l1 x8_2).f0) < (x7_2.length : Int)) = true := decide_eq_true c17
              clear c17
              obtain ⟨bq18, hbq18⟩ : ∃ b_ : Bool, b_ = (rdOf false x7_2 ((rd_T44 l1 x8_2).f0)) := ⟨_, rfl⟩
              replace H : (if bq18 = true then (if 0 ≤ ((rd_T44 l1 x8_2).f1) then (if ((rd_T44 l1 x8_2).f1) < (x7_2.length : Int) then (spec_l7Joined.l1 k2 l1 ((x7_2.set (((rd_T44 l1 x8_2).f0) : Int).toNat true).set (((rd_T44 l1 x8_2).f1) : Int).toNat true) (wrap64 (x8_2 + 1)) a0 x15_1) else (none)) else (none)) else (if 0 ≤ ((rd_T44 l1 x8_2).f1) then (if ((rd_T44 l1 x8_2).f1) < (x7_2.length : Int) then (if rdOf false x7_2 ((rd_T44 l1 x8_2).f1) = true then (spec_l7Joined.l1 k2 l1 ((x7_2.set (((rd_T44 l1 x8_2).f0) : Int).toNat true).set (((rd_T44 l1 x8_2).f1) : Int).toNat true) (wrap64 (x8_2 + 1)) a0 x15_1) else (spec_l7Joined.l1 k2 l1 x7_2 (wrap64 (x8_2 + 1)) a0 x15_1)) else (none)) else (none))) = some r := by rw [← hbq18] at H; exact H
              have Nbq18 := Aside0.mk hbq18
              clear hbq18
              by_cases c19 : bq18 = true
              ·subst c19
               rw [if_pos rfl] at H
               obtain ⟨y114, hy114⟩ : ∃ y_ : List Bool, y_ = (x7_2.set (((rd_T44 l1 x8_2).f0) : Int).toNat true) := ⟨_, rfl⟩
               replace H : (if 0 ≤ ((rd_T44 l1 x8_2).f1) then (if ((rd_T44 l1 x8_2).f1) < (x7_2.length : Int) then (spec_l7Joined.l1 k2 l1 (y114.set (((rd_T44 l1 x8_2).f1) : Int).toNat true) (wrap64 (x8_2 + 1)) a0 x15_1) else (none)) else (none)) = some r := by first | (rw [hy114]; with_reducible exact H) | (have H2_ := (Option.bind_some _ _).symm.trans H; rw [hy114]; with_reducible exact H2_) | (have H2_ := (Option.bind_some _ _).symm.trans H; with_reducible exact H2_) | with_reducible exact H | (rw [hy114]; exact H) | exact H
               have Ny114 := Aside0.mk hy114
               clear hy114
               by_cases c21 : 0 ≤ ((rd_T44 l1 x8_2).f1)
               ·rw [if_pos c21] at H
                have c21b0 : decide (0 ≤ ((rd_T44 l1 x8_2).f1)) = true := decide_eq_true c21
                clear c21
                by_cases c22 : ((rd_T44 l1 x8_2).f1) < (x7_2.length : Int)
                ·rw [if_pos c22] at H
                 have c22b0 : decide (((rd_T44 l1 x8_2).f1) < (x7_2.length : Int)) = true := decide_eq_true c22
                 clear c22
                 obtain ⟨y116, hy116⟩ : ∃ y_ : List Bool, y_ = (y114.set (((rd_T44 l1 x8_2).f1) : Int).toNat true) := ⟨_, rfl⟩
                 replace H : (spec_l7Joined.l1 k2 l1 y116 (wrap64 (x8_2 + 1)) a0 x15_1) = some r := by first | (rw [hy116]; with_reducible exact H) | (have H2_ := (Option.bind_some _ _).symm.trans H; rw [hy116]; with_reducible exact H2_) | (have H2_ := (Option.bind_some _ _).symm.trans H; with_reducible exact H2_) | with_reducible exact H | (rw [hy116]; exact H) | exact H
                 have Ny116 := Aside0.mk hy116
                 clear hy116
                 have H' := Aside0.mk H
                 clear H
                 have p111 : 0 ≤ (x8_2 : Int) := od
                 have q111 : x8_2 < (l1.length : Int) := od
                 obtain ⟨ad111, e111, hx111_0, hx111_1, hx111_2⟩ := at_T44 HR1.out x8_2 p111 q111
                 cases e111
                 (try replace hx111_0 := (HB.out.cell (World.block_lt_of_cell? w _ hx111_0)).trans hx111_0)
                 (try replace hx111_1 := (HB.out.cell (World.block_lt_of_cell? w _ hx111_1)).trans hx111_1)
                 (try replace hx111_2 := (HB.out.cell (World.block_lt_of_cell? w _ hx111_2)).trans hx111_2)
                 replace p111 := eq_true p111
                 replace q111 := eq_true q111
                 have p112 : 0 ≤ (((rd_T44 l1 x8_2).f0) : Int) := od
                 have q112 : ((rd_T44 l1 x8_2).f0) < (x7_2.length : Int) := od
                 obtain ⟨ad112, e112, hx112_0⟩ := Kd.at_bool (Kd.R_reads' HO_7.out).2.2 ((rd_T44 l1 x8_2).f0) p112 q112
                 (try rw [← Nbq18.out] at hx112_0)
                 obtain rfl : (⟨go8, 0, none⟩ : Addr) = ad112 := (by injection e112)
                 (first | simp only [add_plain] at hx112_0 | simp only [add_at] at hx112_0 | simp only [Addr.add, Nat.zero_add] at hx112_0 | skip)
                 replace p112 := eq_true p112
                 replace q112 := eq_true q112
                 have p113 : 0 ≤ (x8_2 : Int) := od
                 have q113 : x8_2 < (l1.length : Int) := od
                 obtain ⟨ad113, e113, hx113_0, hx113_1, hx113_2⟩ := at_T44 HR1.out x8_2 p113 q113
                 obtain rfl : ad111 = ad113 := (by injection e113)
                 (try replace hx113_0 := (HB.out.cell (World.block_lt_of_cell? w _ hx113_0)).trans hx113_0)
                 (try replace hx113_1 := (HB.out.cell (World.block_lt_of_cell? w _ hx113_1)).trans hx113_1)
                 (try replace hx113_2 := (HB.out.cell (World.block_lt_of_cell? w _ hx113_2)).trans hx113_2)
                 replace p113 := eq_true p113
                 replace q113 := eq_true q113
                 have p20 : 0 ≤ (((rd_T44 l1 x8_2).f0) : Int) := od
                 have q20 : (((rd_T44 l1 x8_2).f0) : Int) < ((x7_2.length : Int) : Int) := od
                 obtain ⟨hx20_0, hf20_0⟩ := Kd.R_celln false HO_7.out (((rd_T44 l1 x8_2).f0) : Int) p20 q20
                 replace p20 := eq_true p20
                 replace q20 := eq_true q20
                 have HP24 := Kd.R_putg HO_7.out (((rd_T44 l1 x8_2).f0) : Int) true
                 go_wp2_with (first | ((with_reducible refine gate_store (t := 4) (p := 47) rfl ?_); refine store_event (t := 4) (p := 47) (v := ?vo_w25) (w1 := (wr.setCell ⟨go8, (((rd_T44 l1 x8_2).f0) : Int).toNat, none⟩ (.bool true))) ?hg ?ho ?hn ?hr ?_; (case ho => rfl); (case hg => rfl); (case hn => rfl); (case hr => first | (go_simp; done) | (go_simp; rfl)); intro w25 hw; have hg : wr.grownBy w25 (some go8) := (by rw [hw]; exact HP24.2); have hp_ : Kd.R Kd.bool 4 w25 w.heap.size (fun _ => True) (.slice (some ⟨go8, 0, none⟩) x7_2.length co8) y114 := (by rw [hw, Ny114.out]; exact HP24.1); clear HP24; have n0_ := Aside0.mk (hp_); have n1_ := Aside0.mk ((by rw [hw]; exact below_set (HB.out) GB8.out : Below w.heap.size w w25)); clear HO_7; clear HB; have HO_7 := n0_; have HB := n1_; clear n0_ n1_; clear hg hw hp_; have p115 : 0 ≤ (x8_2 : Int) := od; have q115 : x8_2 < (l1.length : Int) := od; obtain ⟨ad115, e115, hx115_0, hx115_1, hx115_2⟩ := at_T44 HR1.out x8_2 p115 q115; obtain rfl : ad111 = ad115 := (by injection e115); (try replace hx115_0 := (HB.out.cell (World.block_lt_of_cell? w _ hx115_0)).trans hx115_0); (try replace hx115_1 := (HB.out.cell (World.block_lt_of_cell? w _ hx115_1)).trans hx115_1); (try replace hx115_2 := (HB.out.cell (World.block_lt_of_cell? w _ hx115_2)).trans hx115_2); replace p115 := eq_true p115; replace q115 := eq_true q115; have p23 : 0 ≤ (((rd_T44 l1 x8_2).f1) : Int) := od; have q23 : (((rd_T44 l1 x8_2).f1) : Int) < ((x7_2.length : Int) : Int) := od; obtain ⟨hx23_0, hf23_0⟩ := Kd.R_celln false HO_7.out (((rd_T44 l1 x8_2).f1) : Int) p23 q23; replace p23 := eq_true p23; replace q23 := eq_true q23; obtain ⟨hy26_, hz26_⟩ := Kd.R_celln false HO_7.out (((rd_T44 l1 x8_2).f1) : Int) od od; have HP26 := Kd.R_putg HO_7.out (((rd_T44 l1 x8_2).f1) : Int) true) | ((with_reducible refine gate_store (t := 4) (p := 54) rfl ?_); refine store_event (t := 4) (p := 54) (v := ?vo_w27) (w1 := (w25.setCell ⟨go8, (((rd_T44 l1 x8_2).f1) : Int).toNat, none⟩ (.bool true))) ?hg ?ho ?hn ?hr ?_; (case ho => rfl); (case hg => rfl); (case hn => rfl); (case hr => first | (go_simp; done) | (go_simp; rfl)); intro w27 hw; have hg : w25.grownBy w27 (some go8) := (by rw [hw]; exact HP26.2); have hp_ : Kd.R Kd.bool 4 w27 w.heap.size (fun _ => True) (.slice (some ⟨go8, 0, none⟩) x7_2.length co8) y116 := (by rw [hw, Ny116.out]; exact HP26.1); clear HP26; have n0_ := Aside0.mk (hp_); have n1_ := Aside0.mk ((by rw [hw]; exact below_set (HB.out) GB8.out : Below w.heap.size w w27)); clear HO_7; clear HB; have HO_7 := n0_; have HB := n1_; clear n0_ n1_; clear hg hw hp_))
                 (try simp only [← hl7_2])
                 go_roundg k2
                 case measure => have := HK1.out; have := HK2.out; omega
                 case rel => exact ⟨(y116), (wrap64 (x8_2 + 1)), fs, H', ⟨by have := HK1.out; have := HK2.out; omega⟩, ⟨by (try simp only [hl7_1]); (try simp only [hl7_2]); (with_reducible repeat (first | apply Kd.R_alloc | apply Kd.R_drewN | apply Kd.R_drew)); exact HO_7.out⟩, ⟨bw HB.out⟩⟩
                ·rw [if_neg c22] at H
                 exact absurd H (by simp)
               ·rw [if_neg c21] at H
                exact absurd H (by simp)
              ·replace c19 := Bool.eq_false_iff.mpr c19
               subst c19
               rw [if_neg (show ¬ (false = true) by decide)] at H
               by_cases c28 : 0 ≤ ((rd_T44 l1 x8_2).f1)
               ·rw [if_pos c28] at H
                have c28b0 : decide (0 ≤ ((rd_T44 l1 x8_2).f1)) = true := decide_eq_true c28
                clear c28
                by_cases c29 : ((rd_T44 l1 x8_2).f1) < (x7_2.length : Int)
                ·rw [if_pos c29] at H
                 have c29b0 : decide (((rd_T44 l1 x8_2).f1) < (x7_2.length : Int)) = true := decide_eq_true c29
                 clear c29
                 obtain ⟨bq30, hbq30⟩ : ∃ b_ : Bool, b_ = (rdOf false x7_2 ((rd_T44 l1 x8_2).f1)) := ⟨_, rfl⟩
                 replace H : (if bq30 = true then (spec_l7Joined.l1 k2 l1 ((x7_2.set (((rd_T44 l1 x8_2).f0) : Int).toNat true).set (((rd_T44 l1 x8_2).f1) : Int).toNat true) (wrap64 (x8_2 + 1)) a0 x15_1) else (spec_l7Joined.l1 k2 l1 x7_2 (wrap64 (x8_2 + 1)) a0 x15_1)) = some r := by rw [← hbq30] at H; exact H
                 have Nbq30 := Aside0.mk hbq30
                 clear hbq30
                 by_cases c31 : bq30 = true
                 ·subst c31
                  rw [if_pos rfl] at H
                  obtain ⟨y120, hy120⟩ : ∃ y_ : List Bool, y_ = (x7_2.set (((rd_T44 l1 x8_2).f0) : Int).toNat true) := ⟨_, rfl⟩
                  replace H : (spec_l7Joined.l1 k2 l1 (y120.set (((rd_T44 l1 x8_2).f1) : Int).toNat true) (wrap64 (x8_2 + 1)) a0 x15_1) = some r := by first | (rw [hy120]; with_reducible exact H) | (have H2_ := (Option.bind_some _ _).symm.trans H; rw [hy120]; with_reducible exact H2_) | (have H2_ := (Option.bind_some _ _).symm.trans H; with_reducible exact H2_) | with_reducible exact H | (rw [hy120]; exact H) | exact H
                  have Ny120 := Aside0.mk hy120
                  clear hy120
                  obtain ⟨y122, hy122⟩ : ∃ y_ : List Bool, y_ = (y120.set (((rd_T44 l1 x8_2).f1) : Int).toNat true) := ⟨_, rfl⟩
                  replace H : (spec_l7Joined.l1 k2 l1 y122 (wrap64 (x8_2 + 1)) a0 x15_1) = some r := by first | (rw [hy122]; with_reducible exact H) | (have H2_ := (Option.bind_some _ _).symm.trans H; rw [hy122]; with_reducible exact H2_) | (have H2_ := (Option.bind_some _ _).symm.trans H; with_reducible exact H2_) | with_reducible exact H | (rw [hy122]; exact H) | exact H
                  have Ny122 := Aside0.mk hy122
                  clear hy122
                  have H' := Aside0.mk H
                  clear H
                  have p111 : 0 ≤ (x8_2 : Int) := od
                  have q111 : x8_2 < (l1.length : Int) := od
                  obtain ⟨ad111, e111, hx111_0, hx111_1, hx111_2⟩ := at_T44 HR1.out x8_2 p111 q111
                  cases e111
                  (try replace hx111_0 := (HB.out.cell (World.block_lt_of_cell? w _ hx111_0)).trans hx111_0)
                  (try replace hx111_1 := (HB.out.cell (World.block_lt_of_cell? w _ hx111_1)).trans hx111_1)
                  (try replace hx111_2 := (HB.out.cell (World.block_lt_of_cell? w _ hx111_2)).trans hx111_2)
                  replace p111 := eq_true p111
                  replace q111 := eq_true q111
                  have p112 : 0 ≤ (((rd_T44 l1 x8_2).f0) : Int) := od
                  have q112 : ((rd_T44 l1 x8_2).f0) < (x7_2.length : Int) := od
                  obtain ⟨ad112, e112, hx112_0⟩ := Kd.at_bool (Kd.R_reads' HO_7.out).2.2 ((rd_T44 l1 x8_2).f0) p112 q112
                  (try rw [← Nbq18.out] at hx112_0)
                  (try rw [← Nbq30.out] at hx112_0)
                  obtain rfl : (⟨go8, 0, none⟩ : Addr) = ad112 := (by injection e112)
                  (first | simp only [add_plain] at hx112_0 | simp only [add_at] at hx112_0 | simp only [Addr.add, Nat.zero_add] at hx112_0 | skip)
                  replace p112 := eq_true p112
                  replace q112 := eq_true q112
                  have p117 : 0 ≤ (x8_2 : Int) := od
                  have q117 : x8_2 < (l1.length : Int) := od
                  obtain ⟨ad117, e117, hx117_0, hx117_1, hx117_2⟩ := at_T44 HR1.out x8_2 p117 q117
                  obtain rfl : ad111 = ad117 := (by injection e117)
                  (try replace hx117_0 := (HB.out.cell (World.block_lt_of_cell? w _ hx117_0)).trans hx117_0)
                  (try replace hx117_1 := (HB.out.cell (World.block_lt_of_cell? w _ hx117_1)).trans hx117_1)
                  (try replace hx117_2 := (HB.out.cell (World.block_lt_of_cell? w _ hx117_2)).trans hx117_2)
                  replace p117 := eq_true p117
                  replace q117 := eq_true q117
                  have p118 : 0 ≤ (((rd_T44 l1 x8_2).f1) : Int) := od
                  have q118 : ((rd_T44 l1 x8_2).f1) < (x7_2.length : Int) := od
                  obtain ⟨ad118, e118, hx118_0⟩ := Kd.at_bool (Kd.R_reads' HO_7.out).2.2 ((rd_T44 l1 x8_2).f1) p118 q118
                  (try rw [← Nbq18.out] at hx118_0)
                  (try rw [← Nbq30.out] at hx118_0)
                  obtain rfl : (⟨go8, 0, none⟩ : Addr) = ad118 := (by injection e118)
                  (first | simp only [add_plain] at hx118_0 | simp only [add_at] at hx118_0 | simp only [Addr.add, Nat.zero_add] at hx118_0 | skip)
                  replace p118 := eq_true p118
                  replace q118 := eq_true q118
                  have p119 : 0 ≤ (x8_2 : Int) := od
                  have q119 : x8_2 < (l1.length : Int) := od
                  obtain ⟨ad119, e119, hx119_0, hx119_1, hx119_2⟩ := at_T44 HR1.out x8_2 p119 q119
                  obtain rfl : ad111 = ad119 := (by injection e119)
                  (try replace hx119_0 := (HB.out.cell (World.block_lt_of_cell? w _ hx119_0)).trans hx119_0)
                  (try replace hx119_1 := (HB.out.cell (World.block_lt_of_cell? w _ hx119_1)).trans hx119_1)
                  (try replace hx119_2 := (HB.out.cell (World.block_lt_of_cell? w _ hx119_2)).trans hx119_2)
                  replace p119 := eq_true p119
                  replace q119 := eq_true q119
                  have p32 : 0 ≤ (((rd_T44 l1 x8_2).f0) : Int) := od
                  have q32 : (((rd_T44 l1 x8_2).f0) : Int) < ((x7_2.length : Int) : Int) := od
                  obtain ⟨hx32_0, hf32_0⟩ := Kd.R_celln false HO_7.out (((rd_T44 l1 x8_2).f0) : Int) p32 q32
                  replace p32 := eq_true p32
                  replace q32 := eq_true q32
                  have HP34 := Kd.R_putg HO_7.out (((rd_T44 l1 x8_2).f0) : Int) true
                  go_wp2_with (first | ((with_reducible refine gate_store (t := 4) (p := 47) rfl ?_); refine store_event (t := 4) (p := 47) (v := ?vo_w35) (w1 := (wr.setCell ⟨go8, (((rd_T44 l1 x8_2).f0) : Int).toNat, none⟩ (.bool true))) ?hg ?ho ?hn ?hr ?_; (case ho => rfl); (case hg => rfl); (case hn => rfl); (case hr => first | (go_simp; done) | (go_simp; rfl)); intro w35 hw; have hg : wr.grownBy w35 (some go8) := (by rw [hw]; exact HP34.2); have hp_ : Kd.R Kd.bool 4 w35 w.heap.size (fun _ => True) (.slice (some ⟨go8, 0, none⟩) x7_2.length co8) y120 := (by rw [hw, Ny120.out]; exact HP34.1); clear HP34; have n0_ := Aside0.mk (hp_); have n1_ := Aside0.mk ((by rw [hw]; exact below_set (HB.out) GB8.out : Below w.heap.size w w35)); clear HO_7; clear HB; have HO_7 := n0_; have HB := n1_; clear n0_ n1_; clear hg hw hp_; have p121 : 0 ≤ (x8_2 : Int) := od; have q121 : x8_2 < (l1.length : Int) := od; obtain ⟨ad121, e121, hx121_0, hx121_1, hx121_2⟩ := at_T44 HR1.out x8_2 p121 q121; obtain rfl : ad111 = ad121 := (by injection e121); (try replace hx121_0 := (HB.out.cell (World.block_lt_of_cell? w _ hx121_0)).trans hx121_0); (try replace hx121_1 := (HB.out.cell (World.block_lt_of_cell? w _ hx121_1)).trans hx121_1); (try replace hx121_2 := (HB.out.cell (World.block_lt_of_cell? w _ hx121_2)).trans hx121_2); replace p121 := eq_true p121; replace q121 := eq_true q121; have p33 : 0 ≤ (((rd_T44 l1 x8_2).f1) : Int) := od; have q33 : (((rd_T44 l1 x8_2).f1) : Int) < ((x7_2.length : Int) : Int) := od; obtain ⟨hx33_0, hf33_0⟩ := Kd.R_celln false HO_7.out (((rd_T44 l1 x8_2).f1) : Int) p33 q33; replace p33 := eq_true p33; replace q33 := eq_true q33; obtain ⟨hy36_, hz36_⟩ := Kd.R_celln false HO_7.out (((rd_T44 l1 x8_2).f1) : Int) od od; have HP36 := Kd.R_putg HO_7.out (((rd_T44 l1 x8_2).f1) : Int) true) | ((with_reducible refine gate_store (t := 4) (p := 54) rfl ?_); refine store_event (t := 4) (p := 54) (v := ?vo_w37) (w1 := (w35.setCell ⟨go8, (((rd_T44 l1 x8_2).f1) : Int).toNat, none⟩ (.bool true))) ?hg ?ho ?hn ?hr ?_; (case ho => rfl); (case hg => rfl); (case hn => rfl); (case hr => first | (go_simp; done) | (go_simp; rfl)); intro w37 hw; have hg : w35.grownBy w37 (some go8) := (by rw [hw]; exact HP36.2); have hp_ : Kd.R Kd.bool 4 w37 w.heap.size (fun _ => True) (.slice (some ⟨go8, 0, none⟩) x7_2.length co8) y122 := (by rw [hw, Ny122.out]; exact HP36.1); clear HP36; have n0_ := Aside0.mk (hp_); have n1_ := Aside0.mk ((by rw [hw]; exact below_set (HB.out) GB8.out : Below w.heap.size w w37)); clear HO_7; clear HB; have HO_7 := n0_; have HB := n1_; clear n0_ n1_; clear hg hw hp_))
                  (try simp only [← hl7_2])
                  go_roundg k2
                  case measure => have := HK1.out; have := HK2.out; omega
                  case rel => exact ⟨(y122), (wrap64 (x8_2 + 1)), fs, H', ⟨by have := HK1.out; have := HK2.out; omega⟩, ⟨by (try simp only [hl7_1]); (try simp only [hl7_2]); (with_reducible repeat (first | apply Kd.R_alloc | apply Kd.R_drewN | apply Kd.R_drew)); exact HO_7.out⟩, ⟨bw HB.out⟩⟩
                 ·replace c31 := Bool.eq_false_iff.mpr c31
                  subst c31
                  rw [if_neg (show ¬ (false = true) by decide)] at H
                  have H' := Aside0.mk H
                  clear H
                  have p111 : 0 ≤ (x8_2 : Int) := od
                  have q111 : x8_2 < (l1.length : Int) := od
                  obtain ⟨ad111, e111, hx111_0, hx111_1, hx111_2⟩ := at_T44 HR1.out x8_2 p111 q111
                  cases e111
                  (try replace hx111_0 := (HB.out.cell (World.block_lt_of_cell? w _ hx111_0)).trans hx111_0)
                  (try replace hx111_1 := (HB.out.cell (World.block_lt_of_cell? w _ hx111_1)).trans hx111_1)
                  (try replace hx111_2 := (HB.out.cell (World.block_lt_of_cell? w _ hx111_2)).trans hx111_2)
                  replace p111 := eq_true p111
                  replace q111 := eq_true q111
                  have p112 : 0 ≤ (((rd_T44 l1 x8_2).f0) : Int) := od
                  have q112 : ((rd_T44 l1 x8_2).f0) < (x7_2.length : Int) := od
                  obtain ⟨ad112, e112, hx112_0⟩ := Kd.at_bool (Kd.R_reads' HO_7.out).2.2 ((rd_T44 l1 x8_2).f0) p112 q112
                  (try rw [← Nbq18.out] at hx112_0)
                  (try rw [← Nbq30.out] at hx112_0)
                  obtain rfl : (⟨go8, 0, none⟩ : Addr) = ad112 := (by injection e112)
                  (first | simp only [add_plain] at hx112_0 | simp only [add_at] at hx112_0 | simp only [Addr.add, Nat.zero_add] at hx112_0 | skip)
                  replace p112 := eq_true p112
                  replace q112 := eq_true q112
                  have p117 : 0 ≤ (x8_2 : Int) := od
                  have q117 : x8_2 < (l1.length : Int) := od
                  obtain ⟨ad117, e117, hx117_0, hx117_1, hx117_2⟩ := at_T44 HR1.out x8_2 p117 q117
                  obtain rfl : ad111 = ad117 := (by injection e117)
                  (try replace hx117_0 := (HB.out.cell (World.block_lt_of_cell? w _ hx117_0)).trans hx117_0)
                  (try replace hx117_1 := (HB.out.cell (World.block_lt_of_cell? w _ hx117_1)).trans hx117_1)
                  (try replace hx117_2 := (HB.out.cell (World.block_lt_of_cell? w _ hx117_2)).trans hx117_2)
                  replace p117 := eq_true p117
                  replace q117 := eq_true q117
                  have p118 : 0 ≤ (((rd_T44 l1 x8_2).f1) : Int) := od
                  have q118 : ((rd_T44 l1 x8_2).f1) < (x7_2.length : Int) := od
                  obtain ⟨ad118, e118, hx118_0⟩ := Kd.at_bool (Kd.R_reads' HO_7.out).2.2 ((rd_T44 l1 x8_2).f1) p118 q118
                  (try rw [← Nbq18.out] at hx118_0)
                  (try rw [← Nbq30.out] at hx118_0)
                  obtain rfl : (⟨go8, 0, none⟩ : Addr) = ad118 := (by injection e118)
                  (first | simp only [add_plain] at hx118_0 | simp only [add_at] at hx118_0 | simp only [Addr.add, Nat.zero_add] at hx118_0 | skip)
                  replace p118 := eq_true p118
                  replace q118 := eq_true q118
                  go_wp2
                  (try simp only [← hl7_2])
                  go_roundg k2
                  case measure => have := HK1.out; have := HK2.out; omega
                  case rel => exact ⟨(x7_2), (wrap64 (x8_2 + 1)), fs, H', ⟨by have := HK1.out; have := HK2.out; omega⟩, ⟨by (try simp only [hl7_1]); (try simp only [hl7_2]); (with_reducible repeat (first | apply Kd.R_alloc | apply Kd.R_drewN | apply Kd.R_drew)); exact HO_7.out⟩, ⟨bw HB.out⟩⟩
                ·rw [if_neg c29] at H
                 exact absurd H (by simp)
               ·rw [if_neg c28] at H
                exact absurd H (by simp)
             ·rw [if_neg c17] at H
              exact absurd H (by simp)
            ·rw [if_neg c16] at H
             exact absurd H (by simp)
           ·rw [if_neg c15] at H
            exact absurd H (by simp)
          ·rw [if_neg c14] at H
           have c14b0 : decide (x8_2 < (l1.length : Int)) = false := decide_eq_false c14
           clear c14
           have H' := Aside0.mk H
           clear H
           go_wp2
           (try simp only [← hl7_1, ← hl7_2])
           go_roundg k2
           case measure => have := HK1.out; have := HK2.out; omega
           case rel => exact ⟨(x7_2), (wrap64 (x15_1 + 1)), fs, H', ⟨by have := HK1.out; have := HK2.out; omega⟩, ⟨by (try simp only [hl7_1]); (try simp only [hl7_2]); (with_reducible repeat (first | apply Kd.R_alloc | apply Kd.R_drewN | apply Kd.R_drew)); exact HO_7.out⟩, ⟨bw HB.out⟩⟩
       ·rw [if_neg c13] at H
        have c13b0 : decide (x15_1 < a0) = false := decide_eq_false c13
        clear c13
        obtain rfl := Option.some.inj H
        go_wp2
        go_ret
        exact ⟨_, fe, ru HO_7.out, bw HB.out⟩
    ·rw [if_neg c7] at H
     exact absurd H (by simp)
   ·rw [if_neg c6] at H
    exact absurd H (by simp)
  ·rw [if_neg c5] at H
   exact absurd H (by simp)
 ·rw [if_neg c4] at H
  exact absurd H (by simp)

/-! ### spec_l7Root: function 83 -/
-- IMPORT HSq
def spec_l7Root.l0 : Nat → List Bool → Int → Option (Int)
 | 0, _, _ => none
 | k + 1, x7, x8 => if 0 ≤ x8 then (if x8 < (x7.length : Int) then (if rdOf false x7 x8 = true then (some x8) else (spec_l7Root.l0 k x7 (wrap64 (x8 + 1)))) else (none)) else (none)
def spec_l7Root.f (k : Nat) (a0 : Int) (l1 : List (S44)) (a2 : Int) : Option (Int) := (spec_l7Joined.f k a0 l1 a2).bind fun t123 => (spec_l7Root.l0 k t123 0)
set_option maxHeartbeats 8000000 in
set_option maxRecDepth 100000 in
theorem spec_l7Root.calls (k : Nat) (a0 : Int) (A1 : Option Addr) (c1 : Nat) (l1 : List (S44)) (a2 : Int) (r : Int) (w : World) (hr1 : Kd.C k44 w A1 l1.length l1) (hc1 : l1.length ≤ c1) (h : spec_l7Root.f k a0 l1 a2 = some r) :
  Calls Try.prog 83 #[.int .i64 a0, .slice A1 l1.length c1, .int .i64 a2] w fun e w' => e = .returned (.int .i64 r) ∧ Below w.heap.size w w' := by
 have HR1 := Aside0.mk hr1
 have HC1 := Aside0.mk hc1
 clear hr1 hc1
 have HB := Aside0.mk (Below.refl w.heap.size w)
 have H : ((spec_l7Joined.f k a0 l1 a2).bind fun t123 => (spec_l7Root.l0 k t123 0)) = some r := h
 clear h
 replace H := Option.bind_eq_some_iff.mp H
 obtain ⟨t123, A40, H⟩ := H
 try dsimp only at H
 have A4 := Aside0.mk A40
 clear A40
 have H' := Aside0.mk H
 clear H
 go_enter Try.func83, Try.ntmps83
 go_wp2_with (first | ((with_reducible refine gate_callee (f := 104) rfl ?_); refine goesL_ (some 12) rfl rfl Try.func104 (by kernel_rfl) rfl #[.int .i64 a0, .slice A1 l1.length c1, .int .i64 a2] rfl (by (try simp only [List.map_toArray, List.map_cons, List.map_nil]); first | done | rfl | (simp only [List.length_drop, List.length_take]; rfl)) ?_; (with_reducible refine (spec_l7Joined.calls k a0 _ _ l1 a2 t123 _ ?side1 ?side2 A4.out).mono ?_); (case side1 => repeat (first | exact HR1.out | (with_reducible refine Kd.C_alloc ?_ _) | (with_reducible refine Kd.C_drewN ?_ _) | (with_reducible refine Kd.C_drew ?_))); (case side2 => exact HC1.out); rintro e w5 ⟨v124, rfl, ho0, hb⟩; refine ⟨_, rfl, ?_⟩; have n0_ := Aside0.mk (Kd.R_lower ho0 (below_size (bw HB.out))); have n1_ := Aside0.mk (below_step (bw HB.out) hb); clear HB; have HO125 := n0_; have HB := n1_; clear n0_ n1_; (try clear hb); (try clear hb2); (try clear hk); (try clear hi); (try clear ho0)))
 go_loopg [8] k (fun kq v8 w' => ∃ (x8_1 : Int), v8 = .int .i64 x8_1 ∧ Aside0 (spec_l7Root.l0 kq t123 x8_1 = some r) ∧ Aside0 (kq ≤ k) ∧ Aside0 (Kd.R Kd.bool 4 w' w.heap.size (fun _ => True) v124 t123) ∧ Aside0 (Below w.heap.size w w'))
 case atStart => exact ⟨(0), fs, H', ⟨Nat.le_refl _⟩, ⟨ru HO125.out⟩, ⟨bw HB.out⟩⟩
 case round =>
  clear H'
  try clear c1
  try clear p2
  obtain ⟨x8_1, rfl, HA, HK1, HO_7, HB⟩ := hrel
  cases gk with
  | zero => exact absurd HA.out (by simp [spec_l7Root.l0])
  | succ k1 =>
   have H := HA.out
   clear HA
   simp only [spec_l7Root.l0] at H
   by_cases c6 : 0 ≤ x8_1
   ·rw [if_pos c6] at H
    have c6b0 : decide (0 ≤ x8_1) = true := decide_eq_true c6
    clear c6
    by_cases c7 : x8_1 < (t123.length : Int)
    ·rw [if_pos c7] at H
     have c7b0 : decide (x8_1 < (t123.length : Int)) = true := decide_eq_true c7
     clear c7
     obtain ⟨bq8, hbq8⟩ : ∃ b_ : Bool, b_ = (rdOf false t123 x8_1) := ⟨_, rfl⟩
     replace H : (if bq8 = true then (some x8_1) else (spec_l7Root.l0 k1 t123 (wrap64 (x8_1 + 1)))) = some r := by rw [← hbq8] at H; exact H
     have Nbq8 := Aside0.mk hbq8
     clear hbq8
     by_cases c9 : bq8 = true
     ·subst c9
      rw [if_pos rfl] at H
      obtain rfl := Option.some.inj H
      obtain ⟨Ao10, co10, eo10⟩ := Kd.R_slice HO_7.out
      subst eo10
      have p126 : 0 ≤ (x8_1 : Int) := od
      have q126 : x8_1 < (t123.length : Int) := od
      obtain ⟨ad126, e126, hx126_0⟩ := Kd.at_bool (Kd.R_reads' HO_7.out).2.2 x8_1 p126 q126
      (try rw [← Nbq8.out] at hx126_0)
      cases e126
      replace p126 := eq_true p126
      replace q126 := eq_true q126
      go_wp2
      go_ret
      exact ⟨fe, bw HB.out⟩
     ·replace c9 := Bool.eq_false_iff.mpr c9
      subst c9
      rw [if_neg (show ¬ (false = true) by decide)] at H
      have H' := Aside0.mk H
      clear H
      obtain ⟨Ao11, co11, eo11⟩ := Kd.R_slice HO_7.out
      subst eo11
      have p126 : 0 ≤ (x8_1 : Int) := od
      have q126 : x8_1 < (t123.length : Int) := od
      obtain ⟨ad126, e126, hx126_0⟩ := Kd.at_bool (Kd.R_reads' HO_7.out).2.2 x8_1 p126 q126
      (try rw [← Nbq8.out] at hx126_0)
      cases e126
      replace p126 := eq_true p126
      replace q126 := eq_true q126
      go_wp2
      go_roundg k1
      case measure => have := HK1.out; omega
      case rel => exact ⟨(wrap64 (x8_1 + 1)), fs, H', ⟨by have := HK1.out; omega⟩, ⟨ru HO_7.out⟩, ⟨bw HB.out⟩⟩
    ·rw [if_neg c7] at H
     exact absurd H (by simp)
   ·rw [if_neg c6] at H
    exact absurd H (by simp)

end Go.Proofs.Ytegnghbgkiddoaa.PA
