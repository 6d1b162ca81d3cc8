-- Laid by this session's own program (pr.py) over the translation; Lean checks it.
import Derived.Test.YtegnghbgkiddoaaPA0
import Derived.Test.YtegnghbgkiddoaaPA11
import Derived.Test.YtegnghbgkiddoaaPA25
import Derived.Test.YtegnghbgkiddoaaPA27
import Derived.Test.YtegnghbgkiddoaaPA28
import Derived.Test.YtegnghbgkiddoaaPA29
namespace Go.Proofs.Ytegnghbgkiddoaa.PA
open Go.RowKit Go.Proofs.YtegnghbgkiddoaaW.PrintWords Go.Proofs.YtegnghbgkiddoaaW.PrintLast Go.Proofs.YtegnghbgkiddoaaW.PrintMore
attribute [local go_sem] max2_int min2_int max_two min_two max_three min_three max_four min_four   -- for this text's walks alone
set_option linter.unusedVariables false
set_option linter.unusedSimpArgs false

/-! ### laws_szIntS: function 86 -/
def laws_szIntS.f (l0 : List Int) (a1 : Int) : Option (Int) := if (wrap64 (a1 - (l0.length : Int))) < 0 then (some (-1)) else (some (wrap64 (a1 - (l0.length : Int))))
set_option maxHeartbeats 8000000 in
set_option maxRecDepth 100000 in
theorem laws_szIntS.calls (A0 : Option Addr) (c0 : Nat) (l0 : List Int) (a1 : Int) (r : Int) (w : World) (hr0 : Kd.C (Kd.int .i64) w A0 l0.length l0) (hc0 : l0.length ≤ c0) (h : laws_szIntS.f l0 a1 = some r) :
  Calls Try.prog 86 #[.slice A0 l0.length c0, .int .i64 a1] w fun e w' => e = .returned (.int .i64 r) ∧ Drawn0 w w' := by
 have HR0 := Aside0.mk hr0
 have HC0 := Aside0.mk hc0
 clear hr0 hc0
 have H : (if (wrap64 (a1 - (l0.length : Int))) < 0 then (some (-1)) else (some (wrap64 (a1 - (l0.length : Int))))) = some r := h
 clear h
 by_cases c3 : (wrap64 (a1 - (l0.length : Int))) < 0
 ·rw [if_pos c3] at H
  have c3b0 : decide ((wrap64 (a1 - (l0.length : Int))) < 0) = true := decide_eq_true c3
  clear c3
  obtain rfl := Option.some.inj H
  go_enter Try.func86, Try.ntmps86
  go_wp2
  go_ret
  exact ⟨by first | rfl | (simp; done) | (simp [*]; done), by repeat (first | exact Drawn0.refl _ | apply Drawn0.step)⟩
 ·rw [if_neg c3] at H
  have c3b0 : decide ((wrap64 (a1 - (l0.length : Int))) < 0) = false := decide_eq_false c3
  clear c3
  obtain rfl := Option.some.inj H
  go_enter Try.func86, Try.ntmps86
  go_wp2
  go_ret
  exact ⟨by first | rfl | (simp; done) | (simp [*]; done), by repeat (first | exact Drawn0.refl _ | apply Drawn0.step)⟩

/-! ### laws_szIntSS: function 54 -/
def laws_szIntSS.l0 : Nat → List (List Int) → Int → Int → Option (Int)
 | 0, _, _, _ => none
 | k + 1, x0, x1, x5 => if x5 < (x0.length : Int) then (if 0 ≤ x5 then ((laws_szIntS.f (rd_L5 x0 x5) x1).bind fun t888 => (if t888 < 0 then (some (-1)) else (laws_szIntSS.l0 k x0 t888 (wrap64 (x5 + 1))))) else (none)) else (some x1)
def laws_szIntSS.f (k : Nat) (l0 : List (List Int)) (a1 : Int) : Option (Int) := if (wrap64 (a1 - (l0.length : Int))) < 0 then (some (-1)) else (laws_szIntSS.l0 k l0 (wrap64 (a1 - (l0.length : Int))) 0)
theorem laws_szIntSS.mono_l : ∀ k, (∀ y0 y1 y2, LeO (laws_szIntSS.l0 k y0 y1 y2) (laws_szIntSS.l0 (k + 1) y0 y1 y2))
 | 0 => fun _ _ _ r h => by simp [laws_szIntSS.l0] at h
 | k + 1 => by
  have ih0 := laws_szIntSS.mono_l k
  ·intro y0 y1 y2
   unfold laws_szIntSS.l0
   repeat' first
   | (with_reducible exact ih0 _ _ _)
   | (with_reducible exact LeO.refl _)
   | (with_reducible exact LeO.none _)
   | (with_reducible refine LeO.ite ?_ ?_)
   | (with_reducible refine LeO.bind ?_ (fun _ => ?_))
   | exact ih0 _ _ _
   | exact LeO.none _
   | refine LeO.ite ?_ ?_
   | refine LeO.bind ?_ (fun _ => ?_)
theorem laws_szIntSS.mono : ∀ a0 a1 k, LeO (laws_szIntSS.f k a0 a1) (laws_szIntSS.f (k + 1) a0 a1) := by
 intro a0 a1 k
 have ih0 := laws_szIntSS.mono_l k
 unfold laws_szIntSS.f
 repeat' first
   | (with_reducible exact ih0 _ _ _)
   | (with_reducible exact LeO.refl _)
   | (with_reducible exact LeO.none _)
   | (with_reducible refine LeO.ite ?_ ?_)
   | (with_reducible refine LeO.bind ?_ (fun _ => ?_))
   | exact ih0 _ _ _
   | exact LeO.none _
   | refine LeO.ite ?_ ?_
   | refine LeO.bind ?_ (fun _ => ?_)
set_option maxHeartbeats 8000000 in
set_option maxRecDepth 100000 in
theorem laws_szIntSS.calls (k : Nat) (A0 : Option Addr) (c0 : Nat) (l0 : List (List Int)) (a1 : Int) (r : Int) (w : World) (hr0 : Kd.C (Kd.slice 3 (Kd.int .i64)) w A0 l0.length l0) (hc0 : l0.length ≤ c0) (h : laws_szIntSS.f k l0 a1 = some r) :
  Calls Try.prog 54 #[.slice A0 l0.length c0, .int .i64 a1] w fun e w' => e = .returned (.int .i64 r) ∧ Drawn0 w w' := by
 have HR0 := Aside0.mk hr0
 have HC0 := Aside0.mk hc0
 clear hr0 hc0
 have H : (if (wrap64 (a1 - (l0.length : Int))) < 0 then (some (-1)) else (laws_szIntSS.l0 k l0 (wrap64 (a1 - (l0.length : Int))) 0)) = some r := h
 clear h
 by_cases c3 : (wrap64 (a1 - (l0.length : Int))) < 0
 ·rw [if_pos c3] at H
  have c3b0 : decide ((wrap64 (a1 - (l0.length : Int))) < 0) = true := decide_eq_true c3
  clear c3
  obtain rfl := Option.some.inj H
  go_enter Try.func54, Try.ntmps54
  go_wp2
  go_ret
  exact ⟨by first | rfl | (simp; done) | (simp [*]; done), by repeat (first | exact Drawn0.refl _ | apply Drawn0.step)⟩
 ·rw [if_neg c3] at H
  have c3b0 : decide ((wrap64 (a1 - (l0.length : Int))) < 0) = false := decide_eq_false c3
  clear c3
  have H' := Aside0.mk H
  clear H
  go_enter Try.func54, Try.ntmps54
  go_wp2
  go_loopg [1, 5] k (fun kq v1 v5 w' => ∃ (x1_1 : Int) (x5_1 : Int), v1 = .int .i64 x1_1 ∧ v5 = .int .i64 x5_1 ∧ Aside0 (laws_szIntSS.l0 kq l0 x1_1 x5_1 = some r) ∧ Aside0 (kq ≤ k) ∧ Drawn0 w w')
  case atStart => exact ⟨(wrap64 (a1 - (l0.length : Int))), (0), (by first | rfl | (simp; done) | (simp [*]; done)), (by first | rfl | (simp; done) | (simp [*]; done)), H', ⟨Nat.le_refl _⟩, by repeat (first | exact Drawn0.refl _ | apply Drawn0.step)⟩
  case round =>
   clear H'
   try clear p2
   try clear c3
   try clear c3b0
   obtain ⟨x1_1, x5_1, rfl, rfl, HA, HK1, ⟨m1, rfl⟩⟩ := hrel
   cases gk with
   | zero => exact absurd HA.out (by simp [laws_szIntSS.l0])
   | succ k1 =>
    have H := HA.out
    clear HA
    simp only [laws_szIntSS.l0] at H
    by_cases c4 : x5_1 < (l0.length : Int)
    ·rw [if_pos c4] at H
     have c4b0 : decide (x5_1 < (l0.length : Int)) = true := decide_eq_true c4
     clear c4
     by_cases c5 : 0 ≤ x5_1
     ·rw [if_pos c5] at H
      have c5b0 : decide (0 ≤ x5_1) = true := decide_eq_true c5
      clear c5
      replace H := Option.bind_eq_some_iff.mp H
      obtain ⟨t888, A60, H⟩ := H
      replace H : (if t888 < 0 then (some (-1)) else (laws_szIntSS.l0 k1 l0 t888 (wrap64 (x5_1 + 1)))) = some r := H
      have A6 := Aside0.mk A60
      clear A60
      by_cases c7 : t888 < 0
      ·rw [if_pos c7] at H
       have c7b0 : decide (t888 < 0) = true := decide_eq_true c7
       clear c7
       obtain rfl := Option.some.inj H
       have p887 : 0 ≤ (x5_1 : Int) := of_decide_eq_true (by first | (with_reducible assumption) | assumption)
       have q887 : x5_1 < (l0.length : Int) := of_decide_eq_true (by first | (with_reducible assumption) | assumption)
       obtain ⟨ad887, A887_0, c887_0, e887, hx887_0, hl887_0, hi887_0⟩ := at_L5 HR0.out x5_1 p887 q887
       cases e887
       have HR887_0 := Aside0.mk hi887_0
       have HC887_0 := Aside0.mk hl887_0
       clear hi887_0 hl887_0
       replace p887 := eq_true p887
       replace q887 := eq_true q887
       go_wp2_with (first | ((with_reducible refine gate_callee (f := 86) rfl ?_); refine goesL_ (some 23) rfl rfl Try.func86 (by kernel_rfl) rfl #[.slice A887_0 (rd_L5 l0 x5_1).length c887_0, .int .i64 x1_1] rfl (by (try simp only [List.map_toArray, List.map_cons, List.map_nil]); first | done | rfl | (simp only [List.length_drop, List.length_take]; rfl)) ?_; (with_reducible refine (laws_szIntS.calls _ _ (rd_L5 l0 x5_1) x1_1 t888 _ ?side1 ?side2 A6.out).mono ?_); (case side1 => repeat (first | exact HR887_0.out | (with_reducible refine Kd.C_alloc ?_ _) | (with_reducible refine Kd.C_drewN ?_ _) | (with_reducible refine Kd.C_drew ?_))); (case side2 => exact HC887_0.out); rintro e w' ⟨rfl, ⟨nd, rfl⟩⟩; refine ⟨_, rfl, ?_⟩))
       go_ret
       exact ⟨by first | rfl | (simp; done) | (simp [*]; done), by repeat (first | exact Drawn0.refl _ | apply Drawn0.step)⟩
      ·rw [if_neg c7] at H
       have c7b0 : decide (t888 < 0) = false := decide_eq_false c7
       clear c7
       have H' := Aside0.mk H
       clear H
       have p887 : 0 ≤ (x5_1 : Int) := of_decide_eq_true (by first | (with_reducible assumption) | assumption)
       have q887 : x5_1 < (l0.length : Int) := of_decide_eq_true (by first | (with_reducible assumption) | assumption)
       obtain ⟨ad887, A887_0, c887_0, e887, hx887_0, hl887_0, hi887_0⟩ := at_L5 HR0.out x5_1 p887 q887
       cases e887
       have HR887_0 := Aside0.mk hi887_0
       have HC887_0 := Aside0.mk hl887_0
       clear hi887_0 hl887_0
       replace p887 := eq_true p887
       replace q887 := eq_true q887
       go_wp2_with (first | ((with_reducible refine gate_callee (f := 86) rfl ?_); refine goesL_ (some 23) rfl rfl Try.func86 (by kernel_rfl) rfl #[.slice A887_0 (rd_L5 l0 x5_1).length c887_0, .int .i64 x1_1] rfl (by (try simp only [List.map_toArray, List.map_cons, List.map_nil]); first | done | rfl | (simp only [List.length_drop, List.length_take]; rfl)) ?_; (with_reducible refine (laws_szIntS.calls _ _ (rd_L5 l0 x5_1) x1_1 t888 _ ?side1 ?side2 A6.out).mono ?_); (case side1 => repeat (first | exact HR887_0.out | (with_reducible refine Kd.C_alloc ?_ _) | (with_reducible refine Kd.C_drewN ?_ _) | (with_reducible refine Kd.C_drew ?_))); (case side2 => exact HC887_0.out); rintro e w' ⟨rfl, ⟨nd, rfl⟩⟩; refine ⟨_, rfl, ?_⟩))
       go_roundg k1
       case measure => have := HK1.out; omega
       case rel => exact ⟨(t888), (wrap64 (x5_1 + 1)), (by first | rfl | (simp; done) | (simp [*]; done)), (by first | rfl | (simp; done) | (simp [*]; done)), H', ⟨by have := HK1.out; omega⟩, by repeat (first | exact Drawn0.refl _ | apply Drawn0.step)⟩
     ·rw [if_neg c5] at H
      exact absurd H (by simp)
    ·rw [if_neg c4] at H
     have c4b0 : decide (x5_1 < (l0.length : Int)) = false := decide_eq_false c4
     clear c4
     obtain rfl := Option.some.inj H
     go_wp2
     go_ret
     exact ⟨by first | rfl | (simp; done) | (simp [*]; done), by repeat (first | exact Drawn0.refl _ | apply Drawn0.step)⟩

/-! ### laws_toIntS: function 87 -/
def laws_toIntS.l0 : Nat → List Int → List Int → Int → Option (List Int)
 | 0, _, _, _ => none
 | k + 1, x0, x3, x4 => if x4 < (x0.length : Int) then (if 0 ≤ x4 then (if x4 < (x3.length : Int) then (laws_toIntS.l0 k x0 (x3.set (x4 : Int).toNat (rd x0 x4)) (wrap64 (x4 + 1))) else (none)) else (none)) else (some x3)
def laws_toIntS.f (k : Nat) (l0 : List Int) : Option (List Int) := if 0 ≤ (l0.length : Int) then (if ((l0.length : Int) : Int).toNat ≤ 35184372088832 then (laws_toIntS.l0 k l0 (List.replicate ((l0.length : Int) : Int).toNat 0) 0) else (none)) else (none)
theorem laws_toIntS.mono_l : ∀ k, (∀ y0 y1 y2, LeO (laws_toIntS.l0 k y0 y1 y2) (laws_toIntS.l0 (k + 1) y0 y1 y2))
 | 0 => fun _ _ _ r h => by simp [laws_toIntS.l0] at h
 | k + 1 => by
  have ih0 := laws_toIntS.mono_l k
  ·intro y0 y1 y2
   unfold laws_toIntS.l0
   repeat' first
   | (with_reducible exact ih0 _ _ _)
   | (with_reducible exact LeO.refl _)
   | (with_reducible exact LeO.none _)
   | (with_reducible refine LeO.ite ?_ ?_)
   | (with_reducible refine LeO.bind ?_ (fun _ => ?_))
   | exact ih0 _ _ _
   | exact LeO.none _
   | refine LeO.ite ?_ ?_
   | refine LeO.bind ?_ (fun _ => ?_)
theorem laws_toIntS.mono : ∀ a0 k, LeO (laws_toIntS.f k a0) (laws_toIntS.f (k + 1) a0) := by
 intro a0 k
 have ih0 := laws_toIntS.mono_l k
 unfold laws_toIntS.f
 repeat' first
   | (with_reducible exact ih0 _ _ _)
   | (with_reducible exact LeO.refl _)
   | (with_reducible exact LeO.none _)
   | (with_reducible refine LeO.ite ?_ ?_)
   | (with_reducible refine LeO.bind ?_ (fun _ => ?_))
   | exact ih0 _ _ _
   | exact LeO.none _
   | refine LeO.ite ?_ ?_
   | refine LeO.bind ?_ (fun _ => ?_)
set_option maxHeartbeats 8000000 in
set_option maxRecDepth 100000 in
theorem laws_toIntS.calls (k : Nat) (A0 : Option Addr) (c0 : Nat) (l0 : List Int) (r : List Int) (w : World) (hr0 : Kd.C (Kd.int .i64) w A0 l0.length l0) (hc0 : l0.length ≤ c0) (h : laws_toIntS.f k l0 = some r) :
  Calls Try.prog 87 #[.slice A0 l0.length c0] w fun e w' => ∃ v0_ : Value, e = .returned (v0_) ∧ Kd.R (Kd.int .i64) 3 w' w.heap.size (fun _ => True) v0_ r ∧ Below w.heap.size w w' := by
 have HR0 := Aside0.mk hr0
 have HC0 := Aside0.mk hc0
 clear hr0 hc0
 have HB := Aside0.mk (Below.refl w.heap.size w)
 have H : (if 0 ≤ (l0.length : Int) then (if ((l0.length : Int) : Int).toNat ≤ 35184372088832 then (laws_toIntS.l0 k l0 (List.replicate ((l0.length : Int) : Int).toNat 0) 0) else (none)) else (none)) = some r := h
 clear h
 by_cases c2 : 0 ≤ (l0.length : Int)
 ·rw [if_pos c2] at H
  have c2b0 := eq_true c2
  have c2b1 : decide (0 ≤ (l0.length : Int)) = true := decide_eq_true c2
  clear c2
  by_cases c3 : ((l0.length : Int) : Int).toNat ≤ 35184372088832
  ·rw [if_pos c3] at H
   have c3b0 := eq_true c3
   have c3b1 : decide (((l0.length : Int) : Int).toNat ≤ 35184372088832) = true := decide_eq_true c3
   clear c3
   obtain ⟨y889, hy889⟩ : ∃ y_ : List Int, y_ = (List.replicate ((l0.length : Int) : Int).toNat 0) := ⟨_, rfl⟩
   replace H : (laws_toIntS.l0 k l0 y889 0) = some r := by first | (rw [hy889]; with_reducible exact H) | (have H2_ := (Option.bind_some _ _).symm.trans H; rw [hy889]; with_reducible exact H2_) | (have H2_ := (Option.bind_some _ _).symm.trans H; with_reducible exact H2_) | with_reducible exact H | (rw [hy889]; exact H) | exact H
   have Ny889 := Aside0.mk hy889
   clear hy889
   have H' := Aside0.mk H
   clear H
   go_enter Try.func87, Try.ntmps87
   go_wp2_with (first | ((with_reducible refine gate_dst (N := 7) rfl ?_); refine Kd.R_make (Kd.int .i64) _ 3 rfl (N := 7) rfl 24 _ _ rfl (l0.length : Int) rfl rfl Try.underlying24 (.int .i64 0) 8 info3 rfl (by decide) (by omega) 0 (ok := fun _ => True) (okp := fun _ => True) rfl (fun _ hk => hk) trivial (of_decide_eq_true (by first | (with_reducible assumption) | assumption)) (Nat.le_trans (Nat.mul_le_mul_right _ (of_decide_eq_true (by first | (with_reducible assumption) | assumption) : (l0.length : Int).toNat ≤ 35184372088832)) (by omega)) (Below.refl _ _) (Nat.le_refl _) ?_; intro v890 w4 ho5 hb hg_ hnew_; clear hg_ hnew_; (first | rw [← Ny889.out] at ho5 | (simp only [Int.reduceToNat] at ho5; rw [← Ny889.out] at ho5)); have n0_ := Aside0.mk (Kd.R_lower ho5 (below_size (by repeat (first | (with_reducible first | exact HB.out | apply below_alloc | apply pw_below_drewN | apply below_drew1) | exact HB.out)))); have n1_ := Aside0.mk (below_step (by repeat (first | (with_reducible first | exact HB.out | apply below_alloc | apply pw_below_drewN | apply below_drew1) | exact HB.out)) hb); clear HB; have HO891 := n0_; have HB := n1_; clear n0_ n1_; clear hb ho5))
   go_loopg [4] k (fun kq v4 w' => ∃ (x3_1 : List Int) (x4_1 : Int), v4 = .int .i64 x4_1 ∧ Aside0 (laws_toIntS.l0 kq l0 x3_1 x4_1 = some r) ∧ Aside0 (kq ≤ k) ∧ Aside0 (Kd.R (Kd.int .i64) 3 w' w.heap.size (fun _ => True) v890 x3_1) ∧ Aside0 (Below w.heap.size w w'))
   case atStart => exact ⟨(y889), (0), (by first | rfl | (simp; done) | (simp [*]; done)), H', ⟨Nat.le_refl _⟩, ⟨by (with_reducible repeat (first | apply Kd.R_alloc | apply Kd.R_drewN | apply Kd.R_drew)); exact HO891.out⟩, ⟨by repeat (first | (with_reducible first | exact HB.out | apply below_alloc | apply pw_below_drewN | apply below_drew1) | exact HB.out)⟩⟩
   case round =>
    clear H'
    try clear c2
    try clear c2b0
    try clear c2b1
    try clear p2
    try clear c3
    try clear c3b0
    try clear c3b1
    obtain ⟨x3_1, x4_1, rfl, HA, HK1, HO_3, HB⟩ := hrel
    cases gk with
    | zero => exact absurd HA.out (by simp [laws_toIntS.l0])
    | succ k1 =>
     have H := HA.out
     clear HA
     simp only [laws_toIntS.l0] at H
     by_cases c6 : x4_1 < (l0.length : Int)
     ·rw [if_pos c6] at H
      have c6b0 : decide (x4_1 < (l0.length : Int)) = true := decide_eq_true c6
      clear c6
      by_cases c7 : 0 ≤ x4_1
      ·rw [if_pos c7] at H
       have c7b0 : decide (0 ≤ x4_1) = true := decide_eq_true c7
       clear c7
       by_cases c8 : x4_1 < (x3_1.length : Int)
       ·rw [if_pos c8] at H
        have c8b0 : decide (x4_1 < (x3_1.length : Int)) = true := decide_eq_true c8
        clear c8
        obtain ⟨y893, hy893⟩ : ∃ y_ : List Int, y_ = (x3_1.set (x4_1 : Int).toNat (rd l0 x4_1)) := ⟨_, rfl⟩
        replace H : (laws_toIntS.l0 k1 l0 y893 (wrap64 (x4_1 + 1))) = some r := by first | (rw [hy893]; with_reducible exact H) | (have H2_ := (Option.bind_some _ _).symm.trans H; rw [hy893]; with_reducible exact H2_) | (have H2_ := (Option.bind_some _ _).symm.trans H; with_reducible exact H2_) | with_reducible exact H | (rw [hy893]; exact H) | exact H
        have Ny893 := Aside0.mk hy893
        clear hy893
        have H' := Aside0.mk H
        clear H
        have p892 : 0 ≤ (x4_1 : Int) := of_decide_eq_true (by first | (with_reducible assumption) | assumption)
        have q892 : x4_1 < (l0.length : Int) := of_decide_eq_true (by first | (with_reducible assumption) | assumption)
        obtain ⟨ad892, e892, hx892_0⟩ := Kd.at_int HR0.out x4_1 p892 q892
        cases e892
        (try replace hx892_0 := (HB.out.cell (World.block_lt_of_cell? w _ hx892_0)).trans hx892_0)
        replace p892 := eq_true p892
        replace q892 := eq_true q892
        have p9 : 0 ≤ (x4_1 : Int) := of_decide_eq_true (by first | (with_reducible assumption) | assumption)
        have q9 : (x4_1 : Int) < ((x3_1.length : Int) : Int) := of_decide_eq_true (by first | (with_reducible assumption) | assumption)
        obtain ⟨go9, co9, eo9, gb9, gl9, cl9, HG9⟩ := Kd.R_form HO_3.out (by omega)
        (first | cases eo9 | (injection eo9 with ea_ en_ ec_; (first | subst ea_ | (injection ea_ with ea_; subst ea_)); subst ec_; clear en_))
        have GB9 := Aside0.mk gb9
        have GG9 := Aside0.mk HG9
        clear gb9 gl9 HG9
        obtain ⟨hx9_0, hf9_0⟩ := Kd.R_celln 0 HO_3.out (x4_1 : Int) p9 q9
        replace p9 := eq_true p9
        replace q9 := eq_true q9
        have HP10 := Kd.R_putg HO_3.out (x4_1 : Int) (rd l0 x4_1)
        go_wp2_with (first | ((with_reducible refine gate_store (t := 3) (p := 20) rfl ?_); refine store_event (t := 3) (p := 20) (v := ?vo_w11) (w1 := (wr.setCell ⟨go9, (x4_1 : Int).toNat, none⟩ (.int .i64 (rd l0 x4_1)))) ?hg ?ho ?hn ?hr ?_; (case ho => rfl); (case hg => rfl); (case hn => rfl); (case hr => first | (go_simp; done) | (go_simp; rfl)); intro w11 hw; have hg : wr.grownBy w11 (some go9) := (by rw [hw]; exact HP10.2); have hp_ : Kd.R (Kd.int .i64) 3 w11 w.heap.size (fun _ => True) (.slice (some ⟨go9, 0, none⟩) x3_1.length co9) y893 := (by rw [hw, Ny893.out]; exact HP10.1); clear HP10; have n0_ := Aside0.mk (hp_); have n1_ := Aside0.mk ((by rw [hw]; exact below_set (HB.out) GB9.out : Below w.heap.size w w11)); clear HO_3; clear HB; have HO_3 := n0_; have HB := n1_; clear n0_ n1_; clear hg hw hp_))
        go_roundg k1
        case measure => have := HK1.out; omega
        case rel => exact ⟨(y893), (wrap64 (x4_1 + 1)), (by first | rfl | (simp; done) | (simp [*]; done)), H', ⟨by have := HK1.out; omega⟩, ⟨by (with_reducible repeat (first | apply Kd.R_alloc | apply Kd.R_drewN | apply Kd.R_drew)); exact HO_3.out⟩, ⟨by repeat (first | (with_reducible first | exact HB.out | apply below_alloc | apply pw_below_drewN | apply below_drew1) | exact HB.out)⟩⟩
       ·rw [if_neg c8] at H
        exact absurd H (by simp)
      ·rw [if_neg c7] at H
       exact absurd H (by simp)
     ·rw [if_neg c6] at H
      have c6b0 : decide (x4_1 < (l0.length : Int)) = false := decide_eq_false c6
      clear c6
      obtain rfl := Option.some.inj H
      go_wp2
      go_ret
      exact ⟨_, by first | rfl | (simp [errW_none, errW_some] <;> rfl) | (simp [*, errW_none, errW_some] <;> rfl), by (with_reducible repeat (first | apply Kd.R_alloc | apply Kd.R_drewN | apply Kd.R_drew)); exact HO_3.out, by repeat (first | (with_reducible first | exact HB.out | apply below_alloc | apply pw_below_drewN | apply below_drew1) | exact HB.out)⟩
  ·rw [if_neg c3] at H
   exact absurd H (by simp)
 ·rw [if_neg c2] at H
  exact absurd H (by simp)

/-! ### laws_toIntSS: function 55 -/
def laws_toIntSS.l0 : Nat → List (List Int) → List (List Int) → Int → Option ((List (List Int)))
 | 0, _, _, _ => none
 | k + 1, x0, x3, x4 => if x4 < (x0.length : Int) then (if 0 ≤ x4 then ((laws_toIntS.f k (rd_L5 x0 x4)).bind fun t898 => (if x4 < (x3.length : Int) then (laws_toIntSS.l0 k x0 (x3.set (x4 : Int).toNat t898) (wrap64 (x4 + 1))) else (none))) else (none)) else (some x3)
def laws_toIntSS.f (k : Nat) (l0 : List (List Int)) : Option ((List (List Int))) := if 0 ≤ (l0.length : Int) then (if ((l0.length : Int) : Int).toNat ≤ 11728124029610 then (laws_toIntSS.l0 k l0 (List.replicate ((l0.length : Int) : Int).toNat []) 0) else (none)) else (none)
theorem laws_toIntSS.mono_l : ∀ k, (∀ y0 y1 y2, LeO (laws_toIntSS.l0 k y0 y1 y2) (laws_toIntSS.l0 (k + 1) y0 y1 y2))
 | 0 => fun _ _ _ r h => by simp [laws_toIntSS.l0] at h
 | k + 1 => by
  have ih0 := laws_toIntSS.mono_l k
  ·intro y0 y1 y2
   unfold laws_toIntSS.l0
   repeat' first
   | (with_reducible exact ih0 _ _ _)
   | (with_reducible exact laws_toIntS.mono _ _)
   | (with_reducible exact LeO.refl _)
   | (with_reducible exact LeO.none _)
   | (with_reducible refine LeO.ite ?_ ?_)
   | (with_reducible refine LeO.bind ?_ (fun _ => ?_))
   | exact ih0 _ _ _
   | exact laws_toIntS.mono _ _
   | exact LeO.none _
   | refine LeO.ite ?_ ?_
   | refine LeO.bind ?_ (fun _ => ?_)
theorem laws_toIntSS.mono : ∀ a0 k, LeO (laws_toIntSS.f k a0) (laws_toIntSS.f (k + 1) a0) := by
 intro a0 k
 have ih0 := laws_toIntSS.mono_l k
 unfold laws_toIntSS.f
 repeat' first
   | (with_reducible exact ih0 _ _ _)
   | (with_reducible exact laws_toIntS.mono _ _)
   | (with_reducible exact LeO.refl _)
   | (with_reducible exact LeO.none _)
   | (with_reducible refine LeO.ite ?_ ?_)
   | (with_reducible refine LeO.bind ?_ (fun _ => ?_))
   | exact ih0 _ _ _
   | exact laws_toIntS.mono _ _
   | exact LeO.none _
   | refine LeO.ite ?_ ?_
   | refine LeO.bind ?_ (fun _ => ?_)
set_option maxHeartbeats 8000000 in
set_option maxRecDepth 100000 in
theorem laws_toIntSS.calls (k : Nat) (A0 : Option Addr) (c0 : Nat) (l0 : List (List Int)) (r : List (List Int)) (w : World) (hr0 : Kd.C (Kd.slice 3 (Kd.int .i64)) w A0 l0.length l0) (hc0 : l0.length ≤ c0) (h : laws_toIntSS.f k l0 = some r) :
  Calls Try.prog 55 #[.slice A0 l0.length c0] w fun e w' => ∃ v0_ : Value, e = .returned (v0_) ∧ Kd.S (Kd.slice 3 (Kd.int .i64)) 24 w' w.heap.size (fun _ => True) v0_ r ∧ Below w.heap.size w w' := by
 have HR0 := Aside0.mk hr0
 have HC0 := Aside0.mk hc0
 clear hr0 hc0
 have HB := Aside0.mk (Below.refl w.heap.size w)
 have H : (if 0 ≤ (l0.length : Int) then (if ((l0.length : Int) : Int).toNat ≤ 11728124029610 then (laws_toIntSS.l0 k l0 (List.replicate ((l0.length : Int) : Int).toNat []) 0) else (none)) else (none)) = some r := h
 clear h
 by_cases c2 : 0 ≤ (l0.length : Int)
 ·rw [if_pos c2] at H
  have c2b0 := eq_true c2
  have c2b1 : decide (0 ≤ (l0.length : Int)) = true := decide_eq_true c2
  clear c2
  by_cases c3 : ((l0.length : Int) : Int).toNat ≤ 11728124029610
  ·rw [if_pos c3] at H
   have c3b0 := eq_true c3
   have c3b1 : decide (((l0.length : Int) : Int).toNat ≤ 11728124029610) = true := decide_eq_true c3
   clear c3
   obtain ⟨y894, hy894⟩ : ∃ y_ : List (List Int), y_ = (List.replicate ((l0.length : Int) : Int).toNat []) := ⟨_, rfl⟩
   replace H : (laws_toIntSS.l0 k l0 y894 0) = some r := by first | (rw [hy894]; with_reducible exact H) | (have H2_ := (Option.bind_some _ _).symm.trans H; rw [hy894]; with_reducible exact H2_) | (have H2_ := (Option.bind_some _ _).symm.trans H; with_reducible exact H2_) | with_reducible exact H | (rw [hy894]; exact H) | exact H
   have Ny894 := Aside0.mk hy894
   clear hy894
   have H' := Aside0.mk H
   clear H
   go_enter Try.func55, Try.ntmps55
   go_wp2_with (first | ((with_reducible refine gate_dst (N := 7) rfl ?_); refine Kd.S_make (Kd.slice 3 (Kd.int .i64)) _ 24 rfl (N := 7) rfl 33 _ _ rfl (l0.length : Int) rfl rfl Try.underlying33 (.slice none 0 0) 24 info24 rfl (by decide) (by omega) [] (ok := fun _ => True) (okp := fun _ => True) ⟨_, rfl, Kd.R_nil _ _ _ _ _⟩ (fun _ hk => hk) trivial (of_decide_eq_true (by first | (with_reducible assumption) | assumption)) (Nat.le_trans (Nat.mul_le_mul_right _ (of_decide_eq_true (by first | (with_reducible assumption) | assumption) : (l0.length : Int).toNat ≤ 11728124029610)) (by omega)) (Below.refl _ _) (Nat.le_refl _) ?_; intro v895 w4 ho5 hb hg_ hnew_; clear hg_ hnew_; (first | rw [← Ny894.out] at ho5 | (simp only [Int.reduceToNat] at ho5; rw [← Ny894.out] at ho5)); have n0_ := Aside0.mk (Kd.S_lower ho5 (below_size (by repeat (first | (with_reducible first | exact HB.out | apply below_alloc | apply pw_below_drewN | apply below_drew1) | exact HB.out)))); have n1_ := Aside0.mk (below_step (by repeat (first | (with_reducible first | exact HB.out | apply below_alloc | apply pw_below_drewN | apply below_drew1) | exact HB.out)) hb); clear HB; have HO896 := n0_; have HB := n1_; clear n0_ n1_; clear hb ho5))
   go_loopg [4] k (fun kq v4 w' => ∃ (x3_1 : List (List Int)) (x4_1 : Int), v4 = .int .i64 x4_1 ∧ Aside0 (laws_toIntSS.l0 kq l0 x3_1 x4_1 = some r) ∧ Aside0 (kq ≤ k) ∧ Aside0 (Kd.S (Kd.slice 3 (Kd.int .i64)) 24 w' w.heap.size (fun _ => True) v895 x3_1) ∧ Aside0 (Below w.heap.size w w'))
   case atStart => exact ⟨(y894), (0), (by first | rfl | (simp; done) | (simp [*]; done)), H', ⟨Nat.le_refl _⟩, ⟨by (with_reducible repeat (first | apply Kd.S_alloc | apply Kd.S_drewN | apply Kd.S_drew)); exact HO896.out⟩, ⟨by repeat (first | (with_reducible first | exact HB.out | apply below_alloc | apply pw_below_drewN | apply below_drew1) | exact HB.out)⟩⟩
   case round =>
    clear H'
    try clear c2
    try clear c2b0
    try clear c2b1
    try clear p2
    try clear c3
    try clear c3b0
    try clear c3b1
    try clear c5
    obtain ⟨x3_1, x4_1, rfl, HA, HK1, HO_3, HB⟩ := hrel
    cases gk with
    | zero => exact absurd HA.out (by simp [laws_toIntSS.l0])
    | succ k1 =>
     have H := HA.out
     clear HA
     simp only [laws_toIntSS.l0] at H
     by_cases c6 : x4_1 < (l0.length : Int)
     ·rw [if_pos c6] at H
      have c6b0 : decide (x4_1 < (l0.length : Int)) = true := decide_eq_true c6
      clear c6
      by_cases c7 : 0 ≤ x4_1
      ·rw [if_pos c7] at H
       have c7b0 : decide (0 ≤ x4_1) = true := decide_eq_true c7
       clear c7
       replace H := Option.bind_eq_some_iff.mp H
       obtain ⟨t898, A80, H⟩ := H
       replace H : (if x4_1 < (x3_1.length : Int) then (laws_toIntSS.l0 k1 l0 (x3_1.set (x4_1 : Int).toNat t898) (wrap64 (x4_1 + 1))) else (none)) = some r := H
       have A8 := Aside0.mk A80
       clear A80
       by_cases c9 : x4_1 < (x3_1.length : Int)
       ·rw [if_pos c9] at H
        have c9b0 : decide (x4_1 < (x3_1.length : Int)) = true := decide_eq_true c9
        clear c9
        obtain ⟨y901, hy901⟩ : ∃ y_ : List (List Int), y_ = (x3_1.set (x4_1 : Int).toNat t898) := ⟨_, rfl⟩
        replace H : (laws_toIntSS.l0 k1 l0 y901 (wrap64 (x4_1 + 1))) = some r := by first | (rw [hy901]; with_reducible exact H) | (have H2_ := (Option.bind_some _ _).symm.trans H; rw [hy901]; with_reducible exact H2_) | (have H2_ := (Option.bind_some _ _).symm.trans H; with_reducible exact H2_) | with_reducible exact H | (rw [hy901]; exact H) | exact H
        have Ny901 := Aside0.mk hy901
        clear hy901
        have H' := Aside0.mk H
        clear H
        have p897 : 0 ≤ (x4_1 : Int) := of_decide_eq_true (by first | (with_reducible assumption) | assumption)
        have q897 : x4_1 < (l0.length : Int) := of_decide_eq_true (by first | (with_reducible assumption) | assumption)
        obtain ⟨ad897, A897_0, c897_0, e897, hx897_0, hl897_0, hi897_0⟩ := at_L5 HR0.out x4_1 p897 q897
        cases e897
        (try replace hx897_0 := (HB.out.cell (World.block_lt_of_cell? w _ hx897_0)).trans hx897_0)
        have HR897_0 := Aside0.mk hi897_0
        have HC897_0 := Aside0.mk hl897_0
        clear hi897_0 hl897_0
        replace p897 := eq_true p897
        replace q897 := eq_true q897
        go_wp2_with (first | ((with_reducible refine gate_callee (f := 87) rfl ?_); refine goesL_ (some 20) rfl rfl Try.func87 (by kernel_rfl) rfl #[.slice A897_0 (rd_L5 l0 x4_1).length c897_0] rfl (by (try simp only [List.map_toArray, List.map_cons, List.map_nil]); first | done | rfl | (simp only [List.length_drop, List.length_take]; rfl)) ?_; (with_reducible refine (laws_toIntS.calls k1 _ _ (rd_L5 l0 x4_1) t898 _ ?side1 ?side2 A8.out).mono ?_); (case side1 => repeat (first | exact (Kd.C_below HR897_0.out HB.out) | (with_reducible refine Kd.C_alloc ?_ _) | (with_reducible refine Kd.C_drewN ?_ _) | (with_reducible refine Kd.C_drew ?_))); (case side2 => exact HC897_0.out); rintro e w11 ⟨v899, rfl, ho0, hb⟩; refine ⟨_, rfl, ?_⟩; have n0_ := Aside0.mk (Kd.S_elder' (by (with_reducible repeat (first | apply Kd.S_alloc | apply Kd.S_drewN | apply Kd.S_drew)); exact HO_3.out) (Kd.R_base ho0) hb); have n1_ := Aside0.mk (Kd.R_lower ho0 (below_size (by repeat (first | (with_reducible first | exact HB.out | apply below_alloc | apply pw_below_drewN | apply below_drew1) | exact HB.out)))); have n2_ := Aside0.mk (below_step (by repeat (first | (with_reducible first | exact HB.out | apply below_alloc | apply pw_below_drewN | apply below_drew1) | exact HB.out)) hb); clear HO_3; clear HB; have HO_3 := n0_; have HO900 := n1_; have HB := n2_; clear n0_ n1_ n2_; (try clear hb); (try clear hb2); (try clear hk); (try clear hi); (try clear ho0); have p10 : 0 ≤ (x4_1 : Int) := of_decide_eq_true (by first | (with_reducible assumption) | assumption); have q10 : (x4_1 : Int) < ((x3_1.length : Int) : Int) := of_decide_eq_true (by first | (with_reducible assumption) | assumption); obtain ⟨go10, co10, eo10, gb10, gl10, cl10, HG10⟩ := Kd.S_form HO_3.out (by omega); (first | cases eo10 | (injection eo10 with ea_ en_ ec_; (first | subst ea_ | (injection ea_ with ea_; subst ea_)); subst ec_; clear en_)); have GB10 := Aside0.mk gb10; have GG10 := Aside0.mk HG10; clear gb10 gl10 HG10; obtain ⟨_, ce10, hcl10, hM10, hcc10, hfr10, _, _⟩ := Kd.S_elem HO_3.out [] (x4_1 : Int) p10 q10; obtain ⟨ve10_0, rfl, ge10_0⟩ := hM10; have hx10_0 := hcc10 0 _ rfl; have hf10_0 := hfr10 0; (try simp only [show ((Kd.slice 3 (Kd.int .i64))).sz = 1 from rfl, Nat.mul_one, Nat.add_zero] at hx10_0); (try simp only [show ((Kd.slice 3 (Kd.int .i64))).sz = 1 from rfl, Nat.mul_one, Nat.add_zero] at hf10_0); (try clear hM10); clear hcl10 hcc10 hfr10; replace p10 := eq_true p10; replace q10 := eq_true q10; have n_ := Aside0.mk (Kd.S_mono (ok' := (fun k_ => some k_ ≠ (v899 : Value).ownBlock)) HO_3.out (fun k_ hk => by first | exact hk.2 | exact hk)); clear HO_3; have HO_3 := n_; clear n_; have HX12 := Aside0.mk (show Kd.S (Kd.slice 3 (Kd.int .i64)) 24 w11 w.heap.size (fun k_ => ((fun _ => True)) k_ ∧ ¬ ((fun k_ => some k_ = (v899 : Value).ownBlock)) k_) (.slice (some ⟨go10, 0, none⟩) x3_1.length co10) x3_1 from (by (with_reducible repeat (first | apply Kd.S_alloc | apply Kd.S_drewN | apply Kd.S_drew)); exact Kd.S_mono HO_3.out (fun k_ hk => ⟨trivial, fun e_ => hk e_⟩))); obtain ⟨oki12, ce12, hcl12, hM12, hcc12, hfr12, hoki12, hH12⟩ := Kd.S_elem HX12.out [] (x4_1 : Int) (of_decide_eq_true (by first | (with_reducible assumption) | assumption)) (by have h_ : (x4_1 : Int) < ((x3_1.length : Int) : Int) := of_decide_eq_true (by first | (with_reducible assumption) | assumption); first | exact h_ | (have e_ := (Kd.S_reads' HO_3.out).1; omega) | simpa using h_); obtain ⟨ve12_0, rfl, ge12_0⟩ := hM12; have HP12 := Kd.S_seg hH12 (of_decide_eq_true (by first | (with_reducible assumption) | assumption)) (by have h_ : (x4_1 : Int) < ((x3_1.length : Int) : Int) := of_decide_eq_true (by first | (with_reducible assumption) | assumption); first | exact h_ | (have e_ := (Kd.S_reads' HO_3.out).1; omega) | simpa using h_) (seg := [v899]) (j := 0) (show 1 ≤ 1 from by decide) (x' := t898) (Kd.M_row (Kd.R_mono (Kd.R_tight rfl (Kd.R_mono (ok' := fun k_ => ((fun _ => True)) k_ ∧ k_ ≠ go10) (Kd.R_apart' (HO900.out) (Kd.S_typed HO_3.out) (by decide)) (fun k_ hk => ⟨trivial, fun e_ => (hk.2) (by rw [e_]; rfl)⟩))) (fun _ h_ => Or.inr (h_)))) (fun _ hk => hk) (fun k_ hk_ => ((Kd.R_mono (ok' := fun k_ => ((fun _ => True)) k_ ∧ k_ ≠ go10) (Kd.R_apart' (HO900.out) (Kd.S_typed HO_3.out) (by decide)) (fun k_ hk => ⟨trivial, fun e_ => (hk.2) (by rw [e_]; rfl)⟩))).1 k_ hk_.symm); have hx12_0 := hcc12 0 _ rfl; (try simp only [show ((Kd.slice 3 (Kd.int .i64))).sz = 1 from rfl, Nat.mul_one, Nat.add_zero] at hx12_0); have hf12_0 := hfr12 0; (try simp only [show ((Kd.slice 3 (Kd.int .i64))).sz = 1 from rfl, Nat.mul_one, Nat.add_zero] at hf12_0); (try clear hM12); clear hcl12 hcc12 hfr12 hoki12 hH12; (try simp only [show ((Kd.slice 3 (Kd.int .i64))).sz = 1 from rfl, Nat.mul_one, Nat.add_zero] at HP12)) | ((with_reducible refine gate_store (t := 24) (p := 21) rfl ?_); refine store_event (t := 24) (p := 21) (v := ?vo_w13) (w1 := (w11.setCell ⟨go10, (x4_1 : Int).toNat, none⟩ (v899))) ?hg ?ho ?hn ?hr ?_; (case ho => rfl); (case hg => rfl); (case hn => rfl); (case hr => obtain ⟨Av_, cv_, ev_⟩ := Kd.R_slice HO900.out; subst ev_; first | (go_simp; done) | (go_simp; rfl)); intro w13 hw; have hg : w11.grownBy w13 (some go10) := (by rw [hw]; exact HP12.2); have hp_ : Kd.S (Kd.slice 3 (Kd.int .i64)) 24 w13 w.heap.size (fun _ => True) (.slice (some ⟨go10, 0, none⟩) x3_1.length co10) y901 := (by rw [hw, Ny901.out]; exact HP12.1); clear HP12; have n0_ := Aside0.mk (hp_); have n1_ := Aside0.mk ((by rw [hw]; exact below_set (HB.out) GB10.out : Below w.heap.size w w13)); clear HO_3; clear HB; clear HO900; have HO_3 := n0_; have HB := n1_; clear n0_ n1_; clear hg hw hp_))
        go_roundg k1
        case measure => have := HK1.out; omega
        case rel => exact ⟨(y901), (wrap64 (x4_1 + 1)), (by first | rfl | (simp; done) | (simp [*]; done)), H', ⟨by have := HK1.out; omega⟩, ⟨by (with_reducible repeat (first | apply Kd.S_alloc | apply Kd.S_drewN | apply Kd.S_drew)); exact HO_3.out⟩, ⟨by repeat (first | (with_reducible first | exact HB.out | apply below_alloc | apply pw_below_drewN | apply below_drew1) | exact HB.out)⟩⟩
       ·rw [if_neg c9] at H
        exact absurd H (by simp)
      ·rw [if_neg c7] at H
       exact absurd H (by simp)
     ·rw [if_neg c6] at H
      have c6b0 : decide (x4_1 < (l0.length : Int)) = false := decide_eq_false c6
      clear c6
      obtain rfl := Option.some.inj H
      go_wp2
      go_ret
      exact ⟨_, by first | rfl | (simp [errW_none, errW_some] <;> rfl) | (simp [*, errW_none, errW_some] <;> rfl), by (with_reducible repeat (first | apply Kd.S_alloc | apply Kd.S_drewN | apply Kd.S_drew)); exact HO_3.out, by repeat (first | (with_reducible first | exact HB.out | apply below_alloc | apply pw_below_drewN | apply below_drew1) | exact HB.out)⟩
  ·rw [if_neg c3] at H
   exact absurd H (by simp)
 ·rw [if_neg c2] at H
  exact absurd H (by simp)

/-! ### laws_FnExactNextClaims: function 15 -/
def laws_FnExactNextClaims.f (k : Nat) (a0 : Int) (l1 : List S68) (l2 : List (List Int)) : Option Bool :=
 (laws_szCableS.f l1 1048576).bind fun zl1 =>
 if zl1 < 0 then some true else
 (laws_szIntSS.f k l2 zl1).bind fun zl2 =>
 if zl2 < 0 then some true else
 (laws_toCableS.f k l1).bind fun tb1 =>
 (laws_toIntSS.f k l2).bind fun tb2 =>
 (spec_NextClaims.f k a0 tb1 tb2).bind fun tw =>
 (laws_toCableS.f k l1).bind fun tx1 =>
 (laws_toIntSS.f k l2).bind fun tx2 =>
 (impl_NextClaims.f k a0 tx1 tx2).bind fun tg =>
 (laws_eqIntSS.f k tg tw).bind fun e0 =>
 if e0 = true then
 (laws_toCableS.f k l1).bind fun ty1 =>
 (laws_eqCableS.f k tx1 ty1).bind fun ey1 =>
 if ey1 = true then
 (laws_toIntSS.f k l2).bind fun ty2 =>
 (laws_eqIntSS.f k tx2 ty2).bind fun ey2 =>
 if ey2 = true then
 (laws_markCableS.f k tx1 1).bind fun btkl1 =>
 (laws_markIntSS.f k tx2 btkl1.1).bind fun btkl2 =>
 if btkl2.1 < 0 then none else
 (laws_eqIntSS.f k tg tw).bind fun e1 =>
 if e1 = true then
 (laws_markIntSS.f k tg 1).bind fun btm =>
 (laws_heldIntSS.f k btm.2 1).bind fun q0 =>
 if q0 < 0 then none else
 if q0 = btm.1 then
 (laws_toCableS.f k l1).bind fun tu1 =>
 (laws_toIntSS.f k l2).bind fun tu2 =>
 (impl_NextClaims.f k a0 tu1 tu2).bind fun th =>
 (laws_eqIntSS.f k th tw).bind fun e2 =>
 if e2 = true then
 (laws_heldIntSS.f k btm.2 1).bind fun q1 =>
 if q1 < 0 then none else
 if q1 = btm.1 then
 some true else none else none else none else none else none else none else none
theorem laws_FnExactNextClaims.le_call {n : Nat} {W w' : World} (hb : Below W.heap.size W w') (h : n ≤ W.heap.size) : n ≤ W.heap.size := h
set_option maxHeartbeats 8000000 in
set_option maxRecDepth 100000 in
theorem laws_FnExactNextClaims.calls (k : Nat) (a0 : Int) (A1 : Option Addr) (c1 : Nat) (l1 : List S68) (A2 : Option Addr) (c2 : Nat) (l2 : List (List Int)) (r : Bool) (w : World) (hr1 : Kd.C k68 w A1 l1.length l1) (hc1 : l1.length ≤ c1) (hr2 : Kd.C (Kd.slice 3 (Kd.int .i64)) w A2 l2.length l2) (hc2 : l2.length ≤ c2) (h : laws_FnExactNextClaims.f k a0 l1 l2 = some r) :
  Calls Try.prog 15 #[.int .i64 a0, .slice A1 l1.length c1, .slice A2 l2.length c2] w fun e w' => e = .returned (.bool r) ∧ Below w.heap.size w w' := by
 unfold laws_FnExactNextClaims.f at h
 have HC_l1 := Aside0.mk hr1
 have HL_l1 := Aside0.mk hc1
 clear hr1 hc1
 have HC_l2 := Aside0.mk hr2
 have HL_l2 := Aside0.mk hc2
 clear hr2 hc2
 have HB := Aside0.mk (Below.refl w.heap.size w)
 replace h := Option.bind_eq_some_iff.mp h
 obtain ⟨zl1, G0, h⟩ := h
 try dsimp only at h
 replace G0 := Aside0.mk G0
 by_cases czl1 : zl1 < 0
 ·rw [if_pos czl1] at h
  obtain rfl := Option.some.inj h
  clear h
  have czl10 : decide (zl1 < 0) = true := decide_eq_true czl1
  go_enter Try.func15, Try.ntmps15
  go_wp2_with fail
  refine (laws_szCableS.calls A1 c1 l1 1048576 zl1 _ (Kd.C_below HC_l1.out (by repeat (first | (with_reducible first | exact HB.out | apply below_alloc | apply pw_below_drewN | apply below_drew1) | exact HB.out))) HL_l1.out G0.out).mono ?_
  rintro e w' ⟨rfl, ⟨nzl1, rfl⟩⟩
  go_wp2_with fail
  go_ret
  exact ⟨rfl, (by repeat (first | (with_reducible first | exact HB.out | apply below_alloc | apply pw_below_drewN | apply below_drew1) | exact HB.out))⟩
 rw [if_neg czl1] at h
 have czl10 : decide (zl1 < 0) = false := decide_eq_false czl1
 clear czl1
 replace h := Option.bind_eq_some_iff.mp h
 obtain ⟨zl2, G1, h⟩ := h
 try dsimp only at h
 replace G1 := Aside0.mk G1
 by_cases czl2 : zl2 < 0
 ·rw [if_pos czl2] at h
  obtain rfl := Option.some.inj h
  clear h
  have czl20 : decide (zl2 < 0) = true := decide_eq_true czl2
  go_enter Try.func15, Try.ntmps15
  go_wp2_with fail
  refine (laws_szCableS.calls A1 c1 l1 1048576 zl1 _ (Kd.C_below HC_l1.out (by repeat (first | (with_reducible first | exact HB.out | apply below_alloc | apply pw_below_drewN | apply below_drew1) | exact HB.out))) HL_l1.out G0.out).mono ?_
  rintro e w' ⟨rfl, ⟨nzl1, rfl⟩⟩
  go_wp2_with fail
  refine (laws_szIntSS.calls k A2 c2 l2 zl1 zl2 _ (Kd.C_below HC_l2.out (by repeat (first | (with_reducible first | exact HB.out | apply below_alloc | apply pw_below_drewN | apply below_drew1) | exact HB.out))) HL_l2.out G1.out).mono ?_
  rintro e w' ⟨rfl, ⟨nzl2, rfl⟩⟩
  go_wp2_with fail
  go_ret
  exact ⟨rfl, (by repeat (first | (with_reducible first | exact HB.out | apply below_alloc | apply pw_below_drewN | apply below_drew1) | exact HB.out))⟩
 rw [if_neg czl2] at h
 have czl20 : decide (zl2 < 0) = false := decide_eq_false czl2
 clear czl2
 replace h := Option.bind_eq_some_iff.mp h
 obtain ⟨tb1, G2, h⟩ := h
 try dsimp only at h
 replace G2 := Aside0.mk G2
 replace h := Option.bind_eq_some_iff.mp h
 obtain ⟨tb2, G3, h⟩ := h
 try dsimp only at h
 replace G3 := Aside0.mk G3
 replace h := Option.bind_eq_some_iff.mp h
 obtain ⟨tw, G4, h⟩ := h
 try dsimp only at h
 replace G4 := Aside0.mk G4
 replace h := Option.bind_eq_some_iff.mp h
 obtain ⟨tx1, G5, h⟩ := h
 try dsimp only at h
 replace G5 := Aside0.mk G5
 replace h := Option.bind_eq_some_iff.mp h
 obtain ⟨tx2, G6, h⟩ := h
 try dsimp only at h
 replace G6 := Aside0.mk G6
 replace h := Option.bind_eq_some_iff.mp h
 obtain ⟨tg, G7, h⟩ := h
 try dsimp only at h
 replace G7 := Aside0.mk G7
 replace h := Option.bind_eq_some_iff.mp h
 obtain ⟨e0, G8, h⟩ := h
 try dsimp only at h
 replace G8 := Aside0.mk G8
 have ht_e0 : e0 = true := Classical.byContradiction fun hc => by rw [if_neg hc] at h; cases h
 rw [if_pos ht_e0] at h
 subst ht_e0
 replace h := Option.bind_eq_some_iff.mp h
 obtain ⟨ty1, G9, h⟩ := h
 try dsimp only at h
 replace G9 := Aside0.mk G9
 replace h := Option.bind_eq_some_iff.mp h
 obtain ⟨ey1, G10, h⟩ := h
 try dsimp only at h
 replace G10 := Aside0.mk G10
 have ht_ey1 : ey1 = true := Classical.byContradiction fun hc => by rw [if_neg hc] at h; cases h
 rw [if_pos ht_ey1] at h
 subst ht_ey1
 replace h := Option.bind_eq_some_iff.mp h
 obtain ⟨ty2, G11, h⟩ := h
 try dsimp only at h
 replace G11 := Aside0.mk G11
 replace h := Option.bind_eq_some_iff.mp h
 obtain ⟨ey2, G12, h⟩ := h
 try dsimp only at h
 replace G12 := Aside0.mk G12
 have ht_ey2 : ey2 = true := Classical.byContradiction fun hc => by rw [if_neg hc] at h; cases h
 rw [if_pos ht_ey2] at h
 subst ht_ey2
 replace h := Option.bind_eq_some_iff.mp h
 obtain ⟨⟨kl1, yx1⟩, G13, h⟩ := h
 try dsimp only at h
 replace G13 := Aside0.mk G13
 replace h := Option.bind_eq_some_iff.mp h
 obtain ⟨⟨kl2, yx2⟩, G14, h⟩ := h
 try dsimp only at h
 replace G14 := Aside0.mk G14
 have hn_kl2 : ¬ kl2 < 0 := fun hc => by rw [if_pos hc] at h; cases h
 rw [if_neg hn_kl2] at h
 have hz_kl2 : decide (kl2 < 0) = false := decide_eq_false hn_kl2
 clear hn_kl2
 replace h := Option.bind_eq_some_iff.mp h
 obtain ⟨e1, G15, h⟩ := h
 try dsimp only at h
 replace G15 := Aside0.mk G15
 have ht_e1 : e1 = true := Classical.byContradiction fun hc => by rw [if_neg hc] at h; cases h
 rw [if_pos ht_e1] at h
 subst ht_e1
 replace h := Option.bind_eq_some_iff.mp h
 obtain ⟨⟨m, yg⟩, G16, h⟩ := h
 try dsimp only at h
 replace G16 := Aside0.mk G16
 replace h := Option.bind_eq_some_iff.mp h
 obtain ⟨q0, G17, h⟩ := h
 try dsimp only at h
 replace G17 := Aside0.mk G17
 have hn_q0 : ¬ q0 < 0 := fun hc => by rw [if_pos hc] at h; cases h
 rw [if_neg hn_q0] at h
 have hz_q0 : decide (q0 < 0) = false := decide_eq_false hn_q0
 clear hn_q0
 have he_q0 : q0 = m := Classical.byContradiction fun hc => by rw [if_neg hc] at h; cases h
 rw [if_pos he_q0] at h
 have hq_q0 : (q0 == m) = true := beq_iff_eq.mpr he_q0
 have hr_q0 : (q0 != m) = false := bne_eq_false_iff_eq.mpr he_q0
 clear he_q0
 replace h := Option.bind_eq_some_iff.mp h
 obtain ⟨tu1, G18, h⟩ := h
 try dsimp only at h
 replace G18 := Aside0.mk G18
 replace h := Option.bind_eq_some_iff.mp h
 obtain ⟨tu2, G19, h⟩ := h
 try dsimp only at h
 replace G19 := Aside0.mk G19
 replace h := Option.bind_eq_some_iff.mp h
 obtain ⟨th, G20, h⟩ := h
 try dsimp only at h
 replace G20 := Aside0.mk G20
 replace h := Option.bind_eq_some_iff.mp h
 obtain ⟨e2, G21, h⟩ := h
 try dsimp only at h
 replace G21 := Aside0.mk G21
 have ht_e2 : e2 = true := Classical.byContradiction fun hc => by rw [if_neg hc] at h; cases h
 rw [if_pos ht_e2] at h
 subst ht_e2
 replace h := Option.bind_eq_some_iff.mp h
 obtain ⟨q1, G22, h⟩ := h
 try dsimp only at h
 replace G22 := Aside0.mk G22
 have hn_q1 : ¬ q1 < 0 := fun hc => by rw [if_pos hc] at h; cases h
 rw [if_neg hn_q1] at h
 have hz_q1 : decide (q1 < 0) = false := decide_eq_false hn_q1
 clear hn_q1
 have he_q1 : q1 = m := Classical.byContradiction fun hc => by rw [if_neg hc] at h; cases h
 rw [if_pos he_q1] at h
 have hq_q1 : (q1 == m) = true := beq_iff_eq.mpr he_q1
 have hr_q1 : (q1 != m) = false := bne_eq_false_iff_eq.mpr he_q1
 clear he_q1
 obtain rfl := Option.some.inj h
 clear h
 go_enter Try.func15, Try.ntmps15
 go_wp2_with fail
 refine (laws_szCableS.calls A1 c1 l1 1048576 zl1 _ (Kd.C_below HC_l1.out (by repeat (first | (with_reducible first | exact HB.out | apply below_alloc | apply pw_below_drewN | apply below_drew1) | exact HB.out))) HL_l1.out G0.out).mono ?_
 rintro e w' ⟨rfl, ⟨nzl1, rfl⟩⟩
 go_wp2_with fail
 refine (laws_szIntSS.calls k A2 c2 l2 zl1 zl2 _ (Kd.C_below HC_l2.out (by repeat (first | (with_reducible first | exact HB.out | apply below_alloc | apply pw_below_drewN | apply below_drew1) | exact HB.out))) HL_l2.out G1.out).mono ?_
 rintro e w' ⟨rfl, ⟨nzl2, rfl⟩⟩
 go_wp2_with fail
 refine (laws_toCableS.calls k A1 c1 l1 tb1 _ (Kd.C_below HC_l1.out (by repeat (first | (with_reducible first | exact HB.out | apply below_alloc | apply pw_below_drewN | apply below_drew1) | exact HB.out))) HL_l1.out G2.out).mono ?_
 rintro e w' ⟨vb1, rfl, hS, hb⟩
 obtain ⟨Ab1, cb1, rfl⟩ := Kd.R_slice hS
 have HL_b1 := Aside0.mk (Kd.R_reads' hS).2.1
 have HC_b1 := Aside0.mk (Kd.R_reads' hS).2.2
 have HBn := Aside0.mk (Below.refl _ _ : Below (World.heap w').size w' w')
 clear hS
 have h_ := Aside0.mk (below_step (by repeat (first | (with_reducible first | exact HB.out | apply below_alloc | apply pw_below_drewN | apply below_drew1) | exact HB.out)) hb)
 clear HB
 have HB := h_
 clear h_
 clear hb
 have HB_b1 := HBn
 clear HBn
 go_wp2_with fail
 refine (laws_toIntSS.calls k A2 c2 l2 tb2 _ (Kd.C_below HC_l2.out (by repeat (first | (with_reducible first | exact HB.out | apply below_alloc | apply pw_below_drewN | apply below_drew1) | exact HB.out))) HL_l2.out G3.out).mono ?_
 rintro e w' ⟨vb2, rfl, hS, hb⟩
 obtain ⟨Ab2, cb2, rfl⟩ := Kd.S_slice hS
 have HL_b2 := Aside0.mk (Kd.S_reads' hS).2.1
 have HC_b2 := Aside0.mk (Kd.S_reads' hS).2.2
 have HBn := Aside0.mk (Below.refl _ _ : Below (World.heap w').size w' w')
 clear hS
 have h_ := Aside0.mk (below_step (by repeat (first | (with_reducible first | exact HB.out | apply below_alloc | apply pw_below_drewN | apply below_drew1) | exact HB.out)) hb)
 clear HB
 have HB := h_
 clear h_
 have h_ := Aside0.mk (below_step (by repeat (first | (with_reducible first | exact HB_b1.out | apply below_alloc | apply pw_below_drewN | apply below_drew1) | exact HB_b1.out)) hb)
 clear HB_b1
 have HB_b1 := h_
 clear h_
 clear hb
 have HB_b2 := HBn
 clear HBn
 go_wp2_with fail
 refine (spec_NextClaims.calls k a0 Ab1 cb1 tb1 Ab2 cb2 tb2 tw _ (Kd.C_below HC_b1.out (by repeat (first | (with_reducible first | exact HB_b1.out | apply below_alloc | apply pw_below_drewN | apply below_drew1) | exact HB_b1.out))) HL_b1.out (Kd.C_below HC_b2.out (by repeat (first | (with_reducible first | exact HB_b2.out | apply below_alloc | apply pw_below_drewN | apply below_drew1) | exact HB_b2.out))) HL_b2.out G4.out).mono ?_
 rintro e w' ⟨vw, rfl, hS, hb⟩
 obtain ⟨Aw, cw, rfl⟩ := Kd.S_slice hS
 have HL_w := Aside0.mk (Kd.S_reads' hS).2.1
 have HC_w := Aside0.mk (Kd.S_reads' hS).2.2
 have HBn := Aside0.mk (Below.refl _ _ : Below (World.heap w').size w' w')
 clear hS
 have h_ := Aside0.mk (below_step (by repeat (first | (with_reducible first | exact HB.out | apply below_alloc | apply pw_below_drewN | apply below_drew1) | exact HB.out)) hb)
 clear HB
 have HB := h_
 clear h_
 have h_ := Aside0.mk (below_step (by repeat (first | (with_reducible first | exact HB_b1.out | apply below_alloc | apply pw_below_drewN | apply below_drew1) | exact HB_b1.out)) hb)
 clear HB_b1
 have HB_b1 := h_
 clear h_
 have h_ := Aside0.mk (below_step (by repeat (first | (with_reducible first | exact HB_b2.out | apply below_alloc | apply pw_below_drewN | apply below_drew1) | exact HB_b2.out)) hb)
 clear HB_b2
 have HB_b2 := h_
 clear h_
 clear hb
 have HB_w := HBn
 clear HBn
 clear HB_b1 HC_b1 HL_b1
 clear HB_b2 HC_b2 HL_b2
 have HXB := HB
 have HXB_w := HB_w
 go_wp2_with fail
 refine (laws_toCableS.calls k A1 c1 l1 tx1 _ (Kd.C_below HC_l1.out (by repeat (first | (with_reducible first | exact HB.out | apply below_alloc | apply pw_below_drewN | apply below_drew1) | exact HB.out))) HL_l1.out G5.out).mono ?_
 rintro e w' ⟨vx1, rfl, hS, hb⟩
 obtain ⟨Ax1, cx1, rfl⟩ := Kd.R_slice hS
 have HL_x1 := Aside0.mk (Kd.R_reads' hS).2.1
 have HOn := Aside0.mk (Kd.R_mono (Kd.R_bound hS) (fun k_ hk_ => (⟨hk_.2.1, hk_.2.2.1⟩ : _ ≤ k_ ∧ k_ < _)))
 have HZn := Aside0.mk (Nat.le_refl (World.heap w').size)
 have HXn := Aside0.mk hb
 clear hS
 have h_ := Aside0.mk (below_step (by repeat (first | (with_reducible first | exact HB.out | apply below_alloc | apply pw_below_drewN | apply below_drew1) | exact HB.out)) hb)
 clear HB
 have HB := h_
 clear h_
 have h_ := Aside0.mk (below_step (by repeat (first | (with_reducible first | exact HB_w.out | apply below_alloc | apply pw_below_drewN | apply below_drew1) | exact HB_w.out)) hb)
 clear HB_w
 have HB_w := h_
 clear h_
 clear hb
 have HX := HXn
 clear HXn
 have HO_x1 := HOn
 have HZ_x1 := HZn
 clear HOn HZn
 go_wp2_with fail
 refine (laws_toIntSS.calls k A2 c2 l2 tx2 _ (Kd.C_below HC_l2.out (by repeat (first | (with_reducible first | exact HB.out | apply below_alloc | apply pw_below_drewN | apply below_drew1) | exact HB.out))) HL_l2.out G6.out).mono ?_
 rintro e w' ⟨vx2, rfl, hS, hb⟩
 have HD_x1_x2 := Aside0.mk (laws_FnExactNextClaims.le_call hb HZ_x1.out)
 obtain ⟨Ax2, cx2, rfl⟩ := Kd.S_slice hS
 have HL_x2 := Aside0.mk (Kd.S_reads' hS).2.1
 have HOn := Aside0.mk (Kd.S_lower (Kd.S_mono (Kd.S_bound hS) (fun k_ hk_ => (⟨hk_.2.1, hk_.2.2.1⟩ : _ ≤ k_ ∧ k_ < _))) (below_size (by repeat (first | (with_reducible first | exact HX.out | apply below_alloc | apply pw_below_drewN | apply below_drew1) | exact HX.out))))
 have HZn := Aside0.mk (Nat.le_refl (World.heap w').size)
 clear hS
 have h_ := Aside0.mk (below_step (by repeat (first | (with_reducible first | exact HB.out | apply below_alloc | apply pw_below_drewN | apply below_drew1) | exact HB.out)) hb)
 clear HB
 have HB := h_
 clear h_
 have h_ := Aside0.mk (below_step (by repeat (first | (with_reducible first | exact HX.out | apply below_alloc | apply pw_below_drewN | apply below_drew1) | exact HX.out)) hb)
 clear HX
 have HX := h_
 clear h_
 have h_ := Aside0.mk (below_step (by repeat (first | (with_reducible first | exact HB_w.out | apply below_alloc | apply pw_below_drewN | apply below_drew1) | exact HB_w.out)) hb)
 clear HB_w
 have HB_w := h_
 clear h_
 have h_ := Aside0.mk (Kd.R_below (by (with_reducible repeat (first | apply Kd.R_alloc | apply Kd.R_drewN | apply Kd.R_drew)); exact HO_x1.out) hb)
 clear HO_x1
 have HO_x1 := h_
 clear h_
 have h_ := Aside0.mk (Nat.le_trans HZ_x1.out hb.size)
 clear HZ_x1
 have HZ_x1 := h_
 clear h_
 clear hb
 have HO_x2 := HOn
 have HZ_x2 := HZn
 clear HOn HZn
 go_wp2_with fail
 refine (impl_NextClaims.calls k a0 Ax1 cx1 tx1 Ax2 cx2 tx2 tg _ (Kd.R_reads' (by (with_reducible repeat (first | apply Kd.R_alloc | apply Kd.R_drewN | apply Kd.R_drew)); exact HO_x1.out)).2.2 HL_x1.out (Kd.S_reads' (by (with_reducible repeat (first | apply Kd.S_alloc | apply Kd.S_drewN | apply Kd.S_drew)); exact HO_x2.out)).2.2 HL_x2.out G7.out).mono ?_
 rintro e w' ⟨vg, rfl, hS, hb⟩
 have HD_x1_g := Aside0.mk (laws_FnExactNextClaims.le_call hb HZ_x1.out)
 have HD_x2_g := Aside0.mk (laws_FnExactNextClaims.le_call hb HZ_x2.out)
 obtain ⟨Ag, cg, rfl⟩ := Kd.S_slice hS
 have HL_g := Aside0.mk (Kd.S_reads' hS).2.1
 have HOn := Aside0.mk (Kd.S_lower (Kd.S_mono (Kd.S_bound hS) (fun k_ hk_ => (⟨hk_.2.1, hk_.2.2.1⟩ : _ ≤ k_ ∧ k_ < _))) (below_size (by repeat (first | (with_reducible first | exact HX.out | apply below_alloc | apply pw_below_drewN | apply below_drew1) | exact HX.out))))
 have HZn := Aside0.mk (Nat.le_refl (World.heap w').size)
 clear hS
 have h_ := Aside0.mk (below_step (by repeat (first | (with_reducible first | exact HB.out | apply below_alloc | apply pw_below_drewN | apply below_drew1) | exact HB.out)) hb)
 clear HB
 have HB := h_
 clear h_
 have h_ := Aside0.mk (below_step (by repeat (first | (with_reducible first | exact HX.out | apply below_alloc | apply pw_below_drewN | apply below_drew1) | exact HX.out)) hb)
 clear HX
 have HX := h_
 clear h_
 have h_ := Aside0.mk (below_step (by repeat (first | (with_reducible first | exact HB_w.out | apply below_alloc | apply pw_below_drewN | apply below_drew1) | exact HB_w.out)) hb)
 clear HB_w
 have HB_w := h_
 clear h_
 have h_ := Aside0.mk (Kd.R_below (by (with_reducible repeat (first | apply Kd.R_alloc | apply Kd.R_drewN | apply Kd.R_drew)); exact HO_x1.out) hb)
 clear HO_x1
 have HO_x1 := h_
 clear h_
 have h_ := Aside0.mk (Nat.le_trans HZ_x1.out hb.size)
 clear HZ_x1
 have HZ_x1 := h_
 clear h_
 have h_ := Aside0.mk (Kd.S_below (by (with_reducible repeat (first | apply Kd.S_alloc | apply Kd.S_drewN | apply Kd.S_drew)); exact HO_x2.out) hb)
 clear HO_x2
 have HO_x2 := h_
 clear h_
 have h_ := Aside0.mk (Nat.le_trans HZ_x2.out hb.size)
 clear HZ_x2
 have HZ_x2 := h_
 clear h_
 clear hb
 have HO_g := HOn
 have HZ_g := HZn
 clear HOn HZn
 go_wp2_with fail
 refine (laws_eqIntSS.calls k Ag cg tg Aw cw tw true _ (Kd.S_reads' (by (with_reducible repeat (first | apply Kd.S_alloc | apply Kd.S_drewN | apply Kd.S_drew)); exact HO_g.out)).2.2 HL_g.out (Kd.C_below HC_w.out (by repeat (first | (with_reducible first | exact HB_w.out | apply below_alloc | apply pw_below_drewN | apply below_drew1) | exact HB_w.out))) HL_w.out G8.out).mono ?_
 rintro e w' ⟨rfl, ⟨ne0, rfl⟩⟩
 go_wp2_with fail
 refine (laws_toCableS.calls k A1 c1 l1 ty1 _ (Kd.C_below HC_l1.out (by repeat (first | (with_reducible first | exact HB.out | apply below_alloc | apply pw_below_drewN | apply below_drew1) | exact HB.out))) HL_l1.out G9.out).mono ?_
 rintro e w' ⟨vy1, rfl, hS, hb⟩
 have HD_x1_y1 := Aside0.mk (laws_FnExactNextClaims.le_call hb HZ_x1.out)
 have HD_x2_y1 := Aside0.mk (laws_FnExactNextClaims.le_call hb HZ_x2.out)
 have HD_g_y1 := Aside0.mk (laws_FnExactNextClaims.le_call hb HZ_g.out)
 obtain ⟨Ay1, cy1, rfl⟩ := Kd.R_slice hS
 have HL_y1 := Aside0.mk (Kd.R_reads' hS).2.1
 have HOn := Aside0.mk (Kd.R_lower (Kd.R_mono (Kd.R_bound hS) (fun k_ hk_ => (⟨hk_.2.1, hk_.2.2.1⟩ : _ ≤ k_ ∧ k_ < _))) (below_size (by repeat (first | (with_reducible first | exact HX.out | apply below_alloc | apply pw_below_drewN | apply below_drew1) | exact HX.out))))
 have HZn := Aside0.mk (Nat.le_refl (World.heap w').size)
 clear hS
 have h_ := Aside0.mk (below_step (by repeat (first | (with_reducible first | exact HB.out | apply below_alloc | apply pw_below_drewN | apply below_drew1) | exact HB.out)) hb)
 clear HB
 have HB := h_
 clear h_
 have h_ := Aside0.mk (below_step (by repeat (first | (with_reducible first | exact HX.out | apply below_alloc | apply pw_below_drewN | apply below_drew1) | exact HX.out)) hb)
 clear HX
 have HX := h_
 clear h_
 have h_ := Aside0.mk (below_step (by repeat (first | (with_reducible first | exact HB_w.out | apply below_alloc | apply pw_below_drewN | apply below_drew1) | exact HB_w.out)) hb)
 clear HB_w
 have HB_w := h_
 clear h_
 have h_ := Aside0.mk (Kd.R_below (by (with_reducible repeat (first | apply Kd.R_alloc | apply Kd.R_drewN | apply Kd.R_drew)); exact HO_x1.out) hb)
 clear HO_x1
 have HO_x1 := h_
 clear h_
 have h_ := Aside0.mk (Nat.le_trans HZ_x1.out hb.size)
 clear HZ_x1
 have HZ_x1 := h_
 clear h_
 have h_ := Aside0.mk (Kd.S_below (by (with_reducible repeat (first | apply Kd.S_alloc | apply Kd.S_drewN | apply Kd.S_drew)); exact HO_x2.out) hb)
 clear HO_x2
 have HO_x2 := h_
 clear h_
 have h_ := Aside0.mk (Nat.le_trans HZ_x2.out hb.size)
 clear HZ_x2
 have HZ_x2 := h_
 clear h_
 have h_ := Aside0.mk (Kd.S_below (by (with_reducible repeat (first | apply Kd.S_alloc | apply Kd.S_drewN | apply Kd.S_drew)); exact HO_g.out) hb)
 clear HO_g
 have HO_g := h_
 clear h_
 have h_ := Aside0.mk (Nat.le_trans HZ_g.out hb.size)
 clear HZ_g
 have HZ_g := h_
 clear h_
 clear hb
 have HO_y1 := HOn
 have HZ_y1 := HZn
 clear HOn HZn
 go_wp2_with fail
 refine (laws_eqCableS.calls k Ax1 cx1 tx1 Ay1 cy1 ty1 true _ (Kd.R_reads' (by (with_reducible repeat (first | apply Kd.R_alloc | apply Kd.R_drewN | apply Kd.R_drew)); exact HO_x1.out)).2.2 HL_x1.out (Kd.R_reads' (by (with_reducible repeat (first | apply Kd.R_alloc | apply Kd.R_drewN | apply Kd.R_drew)); exact HO_y1.out)).2.2 HL_y1.out G10.out).mono ?_
 rintro e w' ⟨rfl, hb⟩
 have h_ := Aside0.mk (below_step (by repeat (first | (with_reducible first | exact HB.out | apply below_alloc | apply pw_below_drewN | apply below_drew1) | exact HB.out)) hb)
 clear HB
 have HB := h_
 clear h_
 have h_ := Aside0.mk (below_step (by repeat (first | (with_reducible first | exact HX.out | apply below_alloc | apply pw_below_drewN | apply below_drew1) | exact HX.out)) hb)
 clear HX
 have HX := h_
 clear h_
 have h_ := Aside0.mk (below_step (by repeat (first | (with_reducible first | exact HB_w.out | apply below_alloc | apply pw_below_drewN | apply below_drew1) | exact HB_w.out)) hb)
 clear HB_w
 have HB_w := h_
 clear h_
 have h_ := Aside0.mk (Kd.R_below (by (with_reducible repeat (first | apply Kd.R_alloc | apply Kd.R_drewN | apply Kd.R_drew)); exact HO_x1.out) hb)
 clear HO_x1
 have HO_x1 := h_
 clear h_
 have h_ := Aside0.mk (Nat.le_trans HZ_x1.out hb.size)
 clear HZ_x1
 have HZ_x1 := h_
 clear h_
 have h_ := Aside0.mk (Kd.S_below (by (with_reducible repeat (first | apply Kd.S_alloc | apply Kd.S_drewN | apply Kd.S_drew)); exact HO_x2.out) hb)
 clear HO_x2
 have HO_x2 := h_
 clear h_
 have h_ := Aside0.mk (Nat.le_trans HZ_x2.out hb.size)
 clear HZ_x2
 have HZ_x2 := h_
 clear h_
 have h_ := Aside0.mk (Kd.S_below (by (with_reducible repeat (first | apply Kd.S_alloc | apply Kd.S_drewN | apply Kd.S_drew)); exact HO_g.out) hb)
 clear HO_g
 have HO_g := h_
 clear h_
 have h_ := Aside0.mk (Nat.le_trans HZ_g.out hb.size)
 clear HZ_g
 have HZ_g := h_
 clear h_
 have h_ := Aside0.mk (Kd.R_below (by (with_reducible repeat (first | apply Kd.R_alloc | apply Kd.R_drewN | apply Kd.R_drew)); exact HO_y1.out) hb)
 clear HO_y1
 have HO_y1 := h_
 clear h_
 have h_ := Aside0.mk (Nat.le_trans HZ_y1.out hb.size)
 clear HZ_y1
 have HZ_y1 := h_
 clear h_
 clear hb
 clear HO_y1 HZ_y1 HL_y1
 go_wp2_with fail
 refine (laws_toIntSS.calls k A2 c2 l2 ty2 _ (Kd.C_below HC_l2.out (by repeat (first | (with_reducible first | exact HB.out | apply below_alloc | apply pw_below_drewN | apply below_drew1) | exact HB.out))) HL_l2.out G11.out).mono ?_
 rintro e w' ⟨vy2, rfl, hS, hb⟩
 have HD_x1_y2 := Aside0.mk (laws_FnExactNextClaims.le_call hb HZ_x1.out)
 have HD_x2_y2 := Aside0.mk (laws_FnExactNextClaims.le_call hb HZ_x2.out)
 have HD_g_y2 := Aside0.mk (laws_FnExactNextClaims.le_call hb HZ_g.out)
 obtain ⟨Ay2, cy2, rfl⟩ := Kd.S_slice hS
 have HL_y2 := Aside0.mk (Kd.S_reads' hS).2.1
 have HOn := Aside0.mk (Kd.S_lower (Kd.S_mono (Kd.S_bound hS) (fun k_ hk_ => (⟨hk_.2.1, hk_.2.2.1⟩ : _ ≤ k_ ∧ k_ < _))) (below_size (by repeat (first | (with_reducible first | exact HX.out | apply below_alloc | apply pw_below_drewN | apply below_drew1) | exact HX.out))))
 have HZn := Aside0.mk (Nat.le_refl (World.heap w').size)
 clear hS
 have h_ := Aside0.mk (below_step (by repeat (first | (with_reducible first | exact HB.out | apply below_alloc | apply pw_below_drewN | apply below_drew1) | exact HB.out)) hb)
 clear HB
 have HB := h_
 clear h_
 have h_ := Aside0.mk (below_step (by repeat (first | (with_reducible first | exact HX.out | apply below_alloc | apply pw_below_drewN | apply below_drew1) | exact HX.out)) hb)
 clear HX
 have HX := h_
 clear h_
 have h_ := Aside0.mk (below_step (by repeat (first | (with_reducible first | exact HB_w.out | apply below_alloc | apply pw_below_drewN | apply below_drew1) | exact HB_w.out)) hb)
 clear HB_w
 have HB_w := h_
 clear h_
 have h_ := Aside0.mk (Kd.R_below (by (with_reducible repeat (first | apply Kd.R_alloc | apply Kd.R_drewN | apply Kd.R_drew)); exact HO_x1.out) hb)
 clear HO_x1
 have HO_x1 := h_
 clear h_
 have h_ := Aside0.mk (Nat.le_trans HZ_x1.out hb.size)
 clear HZ_x1
 have HZ_x1 := h_
 clear h_
 have h_ := Aside0.mk (Kd.S_below (by (with_reducible repeat (first | apply Kd.S_alloc | apply Kd.S_drewN | apply Kd.S_drew)); exact HO_x2.out) hb)
 clear HO_x2
 have HO_x2 := h_
 clear h_
 have h_ := Aside0.mk (Nat.le_trans HZ_x2.out hb.size)
 clear HZ_x2
 have HZ_x2 := h_
 clear h_
 have h_ := Aside0.mk (Kd.S_below (by (with_reducible repeat (first | apply Kd.S_alloc | apply Kd.S_drewN | apply Kd.S_drew)); exact HO_g.out) hb)
 clear HO_g
 have HO_g := h_
 clear h_
 have h_ := Aside0.mk (Nat.le_trans HZ_g.out hb.size)
 clear HZ_g
 have HZ_g := h_
 clear h_
 clear hb
 have HO_y2 := HOn
 have HZ_y2 := HZn
 clear HOn HZn
 go_wp2_with fail
 refine (laws_eqIntSS.calls k Ax2 cx2 tx2 Ay2 cy2 ty2 true _ (Kd.S_reads' (by (with_reducible repeat (first | apply Kd.S_alloc | apply Kd.S_drewN | apply Kd.S_drew)); exact HO_x2.out)).2.2 HL_x2.out (Kd.S_reads' (by (with_reducible repeat (first | apply Kd.S_alloc | apply Kd.S_drewN | apply Kd.S_drew)); exact HO_y2.out)).2.2 HL_y2.out G12.out).mono ?_
 rintro e w' ⟨rfl, ⟨ney2, rfl⟩⟩
 clear HO_y2 HZ_y2 HL_y2
 go_wp2_with fail
 refine (laws_markCableS.calls k _ (.slice Ax1 tx1.length cx1) tx1 1 kl1 yx1 _ _ (by repeat (first | (with_reducible first | exact HX.out | apply below_alloc | apply pw_below_drewN | apply below_drew1) | exact HX.out)) (by (with_reducible repeat (first | apply Kd.R_alloc | apply Kd.R_drewN | apply Kd.R_drew)); exact HO_x1.out) G13.out).mono ?_
 rintro e w' ⟨rfl, hS, hb, hk⟩
 have h_ := Aside0.mk (Kd.S_step (by (with_reducible repeat (first | apply Kd.S_alloc | apply Kd.S_drewN | apply Kd.S_drew)); exact HO_x2.out) (fun k_ hk_ hlt_ => hk.2 k_ hlt_ (fun hp_ => by have := HD_x1_x2.out; have := hp_.2; have := hk_.1; omega)))
 clear HO_x2
 have HO_x2 := h_
 clear h_
 have h_ := Aside0.mk (Nat.le_trans HZ_x2.out hk.1)
 clear HZ_x2
 have HZ_x2 := h_
 clear h_
 have h_ := Aside0.mk (Kd.S_step (by (with_reducible repeat (first | apply Kd.S_alloc | apply Kd.S_drewN | apply Kd.S_drew)); exact HO_g.out) (fun k_ hk_ hlt_ => hk.2 k_ hlt_ (fun hp_ => by have := HD_x1_g.out; have := hp_.2; have := hk_.1; omega)))
 clear HO_g
 have HO_g := h_
 clear h_
 have h_ := Aside0.mk (Nat.le_trans HZ_g.out hk.1)
 clear HZ_g
 have HZ_g := h_
 clear h_
 have h_ := Aside0.mk (below_step (by repeat (first | (with_reducible first | exact HXB.out | apply below_alloc | apply pw_below_drewN | apply below_drew1) | exact HXB.out)) hb)
 clear HB
 have HB := h_
 clear h_
 clear HX
 have HX := Aside0.mk hb
 have h_ := Aside0.mk (below_step (by repeat (first | (with_reducible first | exact HXB_w.out | apply below_alloc | apply pw_below_drewN | apply below_drew1) | exact HXB_w.out)) hb)
 clear HB_w
 have HB_w := h_
 clear h_
 clear hS hb hk HO_x1 HZ_x1 HL_x1
 go_wp2_with fail
 refine (laws_markIntSS.calls k _ Ax2 cx2 tx2 kl1 kl2 yx2 _ _ (by repeat (first | (with_reducible first | exact HX.out | apply below_alloc | apply pw_below_drewN | apply below_drew1) | exact HX.out)) (by (with_reducible repeat (first | apply Kd.S_alloc | apply Kd.S_drewN | apply Kd.S_drew)); exact HO_x2.out) G14.out).mono ?_
 rintro e w' ⟨rfl, hS, hb, hk⟩
 have h_ := Aside0.mk (Kd.S_step (by (with_reducible repeat (first | apply Kd.S_alloc | apply Kd.S_drewN | apply Kd.S_drew)); exact HO_g.out) (fun k_ hk_ hlt_ => hk.2 k_ hlt_ (fun hp_ => by have := HD_x2_g.out; have := hp_.2; have := hk_.1; omega)))
 clear HO_g
 have HO_g := h_
 clear h_
 have h_ := Aside0.mk (Nat.le_trans HZ_g.out hk.1)
 clear HZ_g
 have HZ_g := h_
 clear h_
 have h_ := Aside0.mk (below_step (by repeat (first | (with_reducible first | exact HXB.out | apply below_alloc | apply pw_below_drewN | apply below_drew1) | exact HXB.out)) hb)
 clear HB
 have HB := h_
 clear h_
 clear HX
 have HX := Aside0.mk hb
 have h_ := Aside0.mk (below_step (by repeat (first | (with_reducible first | exact HXB_w.out | apply below_alloc | apply pw_below_drewN | apply below_drew1) | exact HXB_w.out)) hb)
 clear HB_w
 have HB_w := h_
 clear h_
 clear hS hb hk HO_x2 HZ_x2 HL_x2
 go_wp2_with fail
 refine (laws_eqIntSS.calls k Ag cg tg Aw cw tw true _ (Kd.S_reads' (by (with_reducible repeat (first | apply Kd.S_alloc | apply Kd.S_drewN | apply Kd.S_drew)); exact HO_g.out)).2.2 HL_g.out (Kd.C_below HC_w.out (by repeat (first | (with_reducible first | exact HB_w.out | apply below_alloc | apply pw_below_drewN | apply below_drew1) | exact HB_w.out))) HL_w.out G15.out).mono ?_
 rintro e w' ⟨rfl, ⟨ne1, rfl⟩⟩
 go_wp2_with fail
 refine (laws_markIntSS.calls k _ Ag cg tg 1 m yg _ _ (by repeat (first | (with_reducible first | exact HX.out | apply below_alloc | apply pw_below_drewN | apply below_drew1) | exact HX.out)) (by (with_reducible repeat (first | apply Kd.S_alloc | apply Kd.S_drewN | apply Kd.S_drew)); exact HO_g.out) G16.out).mono ?_
 rintro e w' ⟨rfl, hS, hb, hk⟩
 have h_ := Aside0.mk (below_step (by repeat (first | (with_reducible first | exact HXB.out | apply below_alloc | apply pw_below_drewN | apply below_drew1) | exact HXB.out)) hb)
 clear HB
 have HB := h_
 clear h_
 clear HX
 have HX := Aside0.mk hb
 have h_ := Aside0.mk (below_step (by repeat (first | (with_reducible first | exact HXB_w.out | apply below_alloc | apply pw_below_drewN | apply below_drew1) | exact HXB_w.out)) hb)
 clear HB_w
 have HB_w := h_
 clear h_
 have hl := (Kd.S_reads' hS).1
 clear HO_g
 have HO_g := Aside0.mk hS
 have h_ := Aside0.mk (Nat.le_trans HZ_g.out hk.1)
 clear HZ_g
 have HZ_g := h_
 clear h_ hS hb hk
 rw [hl] at HL_g HO_g ⊢
 clear hl
 go_wp2_with fail
 refine (laws_heldIntSS.calls k Ag cg yg 1 q0 _ (Kd.S_reads' (by (with_reducible repeat (first | apply Kd.S_alloc | apply Kd.S_drewN | apply Kd.S_drew)); exact HO_g.out)).2.2 HL_g.out G17.out).mono ?_
 rintro e w' ⟨rfl, ⟨nq0, rfl⟩⟩
 go_wp2_with fail
 refine (laws_toCableS.calls k A1 c1 l1 tu1 _ (Kd.C_below HC_l1.out (by repeat (first | (with_reducible first | exact HB.out | apply below_alloc | apply pw_below_drewN | apply below_drew1) | exact HB.out))) HL_l1.out G18.out).mono ?_
 rintro e w' ⟨vu1, rfl, hS, hb⟩
 have HD_g_u1 := Aside0.mk (laws_FnExactNextClaims.le_call hb HZ_g.out)
 obtain ⟨Au1, cu1, rfl⟩ := Kd.R_slice hS
 have HL_u1 := Aside0.mk (Kd.R_reads' hS).2.1
 have HOn := Aside0.mk (Kd.R_lower (Kd.R_mono (Kd.R_bound hS) (fun k_ hk_ => (⟨hk_.2.1, hk_.2.2.1⟩ : _ ≤ k_ ∧ k_ < _))) (below_size (by repeat (first | (with_reducible first | exact HX.out | apply below_alloc | apply pw_below_drewN | apply below_drew1) | exact HX.out))))
 have HZn := Aside0.mk (Nat.le_refl (World.heap w').size)
 clear hS
 have h_ := Aside0.mk (below_step (by repeat (first | (with_reducible first | exact HB.out | apply below_alloc | apply pw_below_drewN | apply below_drew1) | exact HB.out)) hb)
 clear HB
 have HB := h_
 clear h_
 have h_ := Aside0.mk (below_step (by repeat (first | (with_reducible first | exact HX.out | apply below_alloc | apply pw_below_drewN | apply below_drew1) | exact HX.out)) hb)
 clear HX
 have HX := h_
 clear h_
 have h_ := Aside0.mk (below_step (by repeat (first | (with_reducible first | exact HB_w.out | apply below_alloc | apply pw_below_drewN | apply below_drew1) | exact HB_w.out)) hb)
 clear HB_w
 have HB_w := h_
 clear h_
 have h_ := Aside0.mk (Kd.S_below (by (with_reducible repeat (first | apply Kd.S_alloc | apply Kd.S_drewN | apply Kd.S_drew)); exact HO_g.out) hb)
 clear HO_g
 have HO_g := h_
 clear h_
 have h_ := Aside0.mk (Nat.le_trans HZ_g.out hb.size)
 clear HZ_g
 have HZ_g := h_
 clear h_
 clear hb
 have HO_u1 := HOn
 have HZ_u1 := HZn
 clear HOn HZn
 go_wp2_with fail
 refine (laws_toIntSS.calls k A2 c2 l2 tu2 _ (Kd.C_below HC_l2.out (by repeat (first | (with_reducible first | exact HB.out | apply below_alloc | apply pw_below_drewN | apply below_drew1) | exact HB.out))) HL_l2.out G19.out).mono ?_
 rintro e w' ⟨vu2, rfl, hS, hb⟩
 have HD_g_u2 := Aside0.mk (laws_FnExactNextClaims.le_call hb HZ_g.out)
 have HD_u1_u2 := Aside0.mk (laws_FnExactNextClaims.le_call hb HZ_u1.out)
 obtain ⟨Au2, cu2, rfl⟩ := Kd.S_slice hS
 have HL_u2 := Aside0.mk (Kd.S_reads' hS).2.1
 have HOn := Aside0.mk (Kd.S_lower (Kd.S_mono (Kd.S_bound hS) (fun k_ hk_ => (⟨hk_.2.1, hk_.2.2.1⟩ : _ ≤ k_ ∧ k_ < _))) (below_size (by repeat (first | (with_reducible first | exact HX.out | apply below_alloc | apply pw_below_drewN | apply below_drew1) | exact HX.out))))
 have HZn := Aside0.mk (Nat.le_refl (World.heap w').size)
 clear hS
 have h_ := Aside0.mk (below_step (by repeat (first | (with_reducible first | exact HB.out | apply below_alloc | apply pw_below_drewN | apply below_drew1) | exact HB.out)) hb)
 clear HB
 have HB := h_
 clear h_
 have h_ := Aside0.mk (below_step (by repeat (first | (with_reducible first | exact HX.out | apply below_alloc | apply pw_below_drewN | apply below_drew1) | exact HX.out)) hb)
 clear HX
 have HX := h_
 clear h_
 have h_ := Aside0.mk (below_step (by repeat (first | (with_reducible first | exact HB_w.out | apply below_alloc | apply pw_below_drewN | apply below_drew1) | exact HB_w.out)) hb)
 clear HB_w
 have HB_w := h_
 clear h_
 have h_ := Aside0.mk (Kd.S_below (by (with_reducible repeat (first | apply Kd.S_alloc | apply Kd.S_drewN | apply Kd.S_drew)); exact HO_g.out) hb)
 clear HO_g
 have HO_g := h_
 clear h_
 have h_ := Aside0.mk (Nat.le_trans HZ_g.out hb.size)
 clear HZ_g
 have HZ_g := h_
 clear h_
 have h_ := Aside0.mk (Kd.R_below (by (with_reducible repeat (first | apply Kd.R_alloc | apply Kd.R_drewN | apply Kd.R_drew)); exact HO_u1.out) hb)
 clear HO_u1
 have HO_u1 := h_
 clear h_
 have h_ := Aside0.mk (Nat.le_trans HZ_u1.out hb.size)
 clear HZ_u1
 have HZ_u1 := h_
 clear h_
 clear hb
 have HO_u2 := HOn
 have HZ_u2 := HZn
 clear HOn HZn
 go_wp2_with fail
 refine (impl_NextClaims.calls k a0 Au1 cu1 tu1 Au2 cu2 tu2 th _ (Kd.R_reads' (by (with_reducible repeat (first | apply Kd.R_alloc | apply Kd.R_drewN | apply Kd.R_drew)); exact HO_u1.out)).2.2 HL_u1.out (Kd.S_reads' (by (with_reducible repeat (first | apply Kd.S_alloc | apply Kd.S_drewN | apply Kd.S_drew)); exact HO_u2.out)).2.2 HL_u2.out G20.out).mono ?_
 rintro e w' ⟨vh, rfl, hS, hb⟩
 have HD_g_h := Aside0.mk (laws_FnExactNextClaims.le_call hb HZ_g.out)
 have HD_u1_h := Aside0.mk (laws_FnExactNextClaims.le_call hb HZ_u1.out)
 have HD_u2_h := Aside0.mk (laws_FnExactNextClaims.le_call hb HZ_u2.out)
 obtain ⟨Ah, ch, rfl⟩ := Kd.S_slice hS
 have HL_h := Aside0.mk (Kd.S_reads' hS).2.1
 have HOn := Aside0.mk (Kd.S_lower (Kd.S_mono (Kd.S_bound hS) (fun k_ hk_ => (⟨hk_.2.1, hk_.2.2.1⟩ : _ ≤ k_ ∧ k_ < _))) (below_size (by repeat (first | (with_reducible first | exact HX.out | apply below_alloc | apply pw_below_drewN | apply below_drew1) | exact HX.out))))
 have HZn := Aside0.mk (Nat.le_refl (World.heap w').size)
 clear hS
 have h_ := Aside0.mk (below_step (by repeat (first | (with_reducible first | exact HB.out | apply below_alloc | apply pw_below_drewN | apply below_drew1) | exact HB.out)) hb)
 clear HB
 have HB := h_
 clear h_
 have h_ := Aside0.mk (below_step (by repeat (first | (with_reducible first | exact HX.out | apply below_alloc | apply pw_below_drewN | apply below_drew1) | exact HX.out)) hb)
 clear HX
 have HX := h_
 clear h_
 have h_ := Aside0.mk (below_step (by repeat (first | (with_reducible first | exact HB_w.out | apply below_alloc | apply pw_below_drewN | apply below_drew1) | exact HB_w.out)) hb)
 clear HB_w
 have HB_w := h_
 clear h_
 have h_ := Aside0.mk (Kd.S_below (by (with_reducible repeat (first | apply Kd.S_alloc | apply Kd.S_drewN | apply Kd.S_drew)); exact HO_g.out) hb)
 clear HO_g
 have HO_g := h_
 clear h_
 have h_ := Aside0.mk (Nat.le_trans HZ_g.out hb.size)
 clear HZ_g
 have HZ_g := h_
 clear h_
 have h_ := Aside0.mk (Kd.R_below (by (with_reducible repeat (first | apply Kd.R_alloc | apply Kd.R_drewN | apply Kd.R_drew)); exact HO_u1.out) hb)
 clear HO_u1
 have HO_u1 := h_
 clear h_
 have h_ := Aside0.mk (Nat.le_trans HZ_u1.out hb.size)
 clear HZ_u1
 have HZ_u1 := h_
 clear h_
 have h_ := Aside0.mk (Kd.S_below (by (with_reducible repeat (first | apply Kd.S_alloc | apply Kd.S_drewN | apply Kd.S_drew)); exact HO_u2.out) hb)
 clear HO_u2
 have HO_u2 := h_
 clear h_
 have h_ := Aside0.mk (Nat.le_trans HZ_u2.out hb.size)
 clear HZ_u2
 have HZ_u2 := h_
 clear h_
 clear hb
 have HO_h := HOn
 have HZ_h := HZn
 clear HOn HZn
 go_wp2_with fail
 refine (laws_eqIntSS.calls k Ah ch th Aw cw tw true _ (Kd.S_reads' (by (with_reducible repeat (first | apply Kd.S_alloc | apply Kd.S_drewN | apply Kd.S_drew)); exact HO_h.out)).2.2 HL_h.out (Kd.C_below HC_w.out (by repeat (first | (with_reducible first | exact HB_w.out | apply below_alloc | apply pw_below_drewN | apply below_drew1) | exact HB_w.out))) HL_w.out G21.out).mono ?_
 rintro e w' ⟨rfl, ⟨ne2, rfl⟩⟩
 go_wp2_with fail
 refine (laws_heldIntSS.calls k Ag cg yg 1 q1 _ (Kd.S_reads' (by (with_reducible repeat (first | apply Kd.S_alloc | apply Kd.S_drewN | apply Kd.S_drew)); exact HO_g.out)).2.2 HL_g.out G22.out).mono ?_
 rintro e w' ⟨rfl, ⟨nq1, rfl⟩⟩
 go_wp2_with fail
 go_ret
 exact ⟨rfl, (by repeat (first | (with_reducible first | exact HB.out | apply below_alloc | apply pw_below_drewN | apply below_drew1) | exact HB.out))⟩

end Go.Proofs.Ytegnghbgkiddoaa.PA
