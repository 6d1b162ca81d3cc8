-- Laid by this session's own program (pr.py) over the translation; Lean checks it.
import Derived.Test.YtegnghbgkiddoaaPA0
import Derived.Test.YtegnghbgkiddoaaPA3
import Derived.Test.YtegnghbgkiddoaaPA4
import Derived.Test.YtegnghbgkiddoaaPA8
import Derived.Test.YtegnghbgkiddoaaPA17
import Derived.Test.YtegnghbgkiddoaaPA61
import Derived.Test.YtegnghbgkiddoaaHSq
import Derived.Test.YtegnghbgkiddoaaHSq
import Derived.Test.YtegnghbgkiddoaaHSq
import Derived.Test.YtegnghbgkiddoaaHSq
import Derived.Test.YtegnghbgkiddoaaWRepsOne
namespace Go.Proofs.Ytegnghbgkiddoaa.PA
open Go.RowKit Go.Proofs.YtegnghbgkiddoaaW.PrintWords Go.Proofs.YtegnghbgkiddoaaW.PrintLast Go.Proofs.YtegnghbgkiddoaaW.PrintMore
attribute [local go_sem] max2_int min2_int max_two min_two max_three min_three max_four min_four   -- for this text's walks alone
set_option linter.unusedVariables false
set_option linter.unusedSimpArgs false

/-! ### cmp_Compare_int: function 103 -/
-- IMPORT HSq
def cmp_Compare_int.f (a0 : Int) (a1 : Int) : Option (Int) := (cmp_isNaN_int.f a0).bind fun t592 => ((cmp_isNaN_int.f a1).bind fun t593 => (if t592 = true then (if t593 = true then (some 0) else (some (-1))) else (if t593 = true then (some 1) else (if a0 < a1 then (some (-1)) else (if a0 > a1 then (some 1) else (some 0))))))
set_option maxHeartbeats 8000000 in
set_option maxRecDepth 100000 in
theorem cmp_Compare_int.calls (a0 : Int) (a1 : Int) (r : Int) (w : World) (h : cmp_Compare_int.f a0 a1 = some r) :
  Calls Try.prog 103 #[.int .i64 a0, .int .i64 a1] w fun e w' => e = .returned (.int .i64 r) ∧ Drawn0 w w' := by
 have H : ((cmp_isNaN_int.f a0).bind fun t592 => ((cmp_isNaN_int.f a1).bind fun t593 => (if t592 = true then (if t593 = true then (some 0) else (some (-1))) else (if t593 = true then (some 1) else (if a0 < a1 then (some (-1)) else (if a0 > a1 then (some 1) else (some 0))))))) = some r := h
 clear h
 replace H := Option.bind_eq_some_iff.mp H
 obtain ⟨t592, A30, H⟩ := H
 try dsimp only at H
 have A3 := Aside0.mk A30
 clear A30
 replace H := Option.bind_eq_some_iff.mp H
 obtain ⟨t593, A40, H⟩ := H
 try dsimp only at H
 have A4 := Aside0.mk A40
 clear A40
 by_cases c5 : t592 = true
 ·subst c5
  rw [if_pos rfl] at H
  by_cases c6 : t593 = true
  ·subst c6
   rw [if_pos rfl] at H
   obtain rfl := Option.some.inj H
   go_enter Try.func103, Try.ntmps103
   go_wp2_with (first | ((with_reducible refine gate_callee (f := 123) rfl ?_); refine goesL_ (some 8) rfl rfl Try.func123 (by kernel_rfl) rfl #[.int .i64 a0] rfl (by (try simp only [List.map_toArray, List.map_cons, List.map_nil]); first | done | rfl | (simp only [List.length_drop, List.length_take]; rfl)) ?_; (with_reducible refine (cmp_isNaN_int.calls a0 true _ A3.out).mono ?_); rintro e w' ⟨rfl, ⟨nd, rfl⟩⟩; refine ⟨_, rfl, ?_⟩) | ((with_reducible refine gate_callee (f := 123) rfl ?_); refine goesL_ (some 10) rfl rfl Try.func123 (by kernel_rfl) rfl #[.int .i64 a1] rfl (by (try simp only [List.map_toArray, List.map_cons, List.map_nil]); first | done | rfl | (simp only [List.length_drop, List.length_take]; rfl)) ?_; (with_reducible refine (cmp_isNaN_int.calls a1 true _ A4.out).mono ?_); rintro e w' ⟨rfl, ⟨nd, rfl⟩⟩; refine ⟨_, rfl, ?_⟩))
   go_ret
   exact ⟨fs, by repeat (first | exact Drawn0.refl _ | apply Drawn0.step)⟩
  ·replace c6 := Bool.eq_false_iff.mpr c6
   subst c6
   rw [if_neg (show ¬ (false = true) by decide)] at H
   obtain rfl := Option.some.inj H
   go_enter Try.func103, Try.ntmps103
   go_wp2_with (first | ((with_reducible refine gate_callee (f := 123) rfl ?_); refine goesL_ (some 8) rfl rfl Try.func123 (by kernel_rfl) rfl #[.int .i64 a0] rfl (by (try simp only [List.map_toArray, List.map_cons, List.map_nil]); first | done | rfl | (simp only [List.length_drop, List.length_take]; rfl)) ?_; (with_reducible refine (cmp_isNaN_int.calls a0 true _ A3.out).mono ?_); rintro e w' ⟨rfl, ⟨nd, rfl⟩⟩; refine ⟨_, rfl, ?_⟩) | ((with_reducible refine gate_callee (f := 123) rfl ?_); refine goesL_ (some 10) rfl rfl Try.func123 (by kernel_rfl) rfl #[.int .i64 a1] rfl (by (try simp only [List.map_toArray, List.map_cons, List.map_nil]); first | done | rfl | (simp only [List.length_drop, List.length_take]; rfl)) ?_; (with_reducible refine (cmp_isNaN_int.calls a1 false _ A4.out).mono ?_); rintro e w' ⟨rfl, ⟨nd, rfl⟩⟩; refine ⟨_, rfl, ?_⟩))
   go_ret
   exact ⟨fs, by repeat (first | exact Drawn0.refl _ | apply Drawn0.step)⟩
 ·replace c5 := Bool.eq_false_iff.mpr c5
  subst c5
  rw [if_neg (show ¬ (false = true) by decide)] at H
  by_cases c7 : t593 = true
  ·subst c7
   rw [if_pos rfl] at H
   obtain rfl := Option.some.inj H
   go_enter Try.func103, Try.ntmps103
   go_wp2_with (first | ((with_reducible refine gate_callee (f := 123) rfl ?_); refine goesL_ (some 8) rfl rfl Try.func123 (by kernel_rfl) rfl #[.int .i64 a0] rfl (by (try simp only [List.map_toArray, List.map_cons, List.map_nil]); first | done | rfl | (simp only [List.length_drop, List.length_take]; rfl)) ?_; (with_reducible refine (cmp_isNaN_int.calls a0 false _ A3.out).mono ?_); rintro e w' ⟨rfl, ⟨nd, rfl⟩⟩; refine ⟨_, rfl, ?_⟩) | ((with_reducible refine gate_callee (f := 123) rfl ?_); refine goesL_ (some 10) rfl rfl Try.func123 (by kernel_rfl) rfl #[.int .i64 a1] rfl (by (try simp only [List.map_toArray, List.map_cons, List.map_nil]); first | done | rfl | (simp only [List.length_drop, List.length_take]; rfl)) ?_; (with_reducible refine (cmp_isNaN_int.calls a1 true _ A4.out).mono ?_); rintro e w' ⟨rfl, ⟨nd, rfl⟩⟩; refine ⟨_, rfl, ?_⟩))
   go_ret
   exact ⟨fs, by repeat (first | exact Drawn0.refl _ | apply Drawn0.step)⟩
  ·replace c7 := Bool.eq_false_iff.mpr c7
   subst c7
   rw [if_neg (show ¬ (false = true) by decide)] at H
   by_cases c8 : a0 < a1
   ·rw [if_pos c8] at H
    have c8b0 : decide (a0 < a1) = true := decide_eq_true c8
    clear c8
    obtain rfl := Option.some.inj H
    go_enter Try.func103, Try.ntmps103
    go_wp2_with (first | ((with_reducible refine gate_callee (f := 123) rfl ?_); refine goesL_ (some 8) rfl rfl Try.func123 (by kernel_rfl) rfl #[.int .i64 a0] rfl (by (try simp only [List.map_toArray, List.map_cons, List.map_nil]); first | done | rfl | (simp only [List.length_drop, List.length_take]; rfl)) ?_; (with_reducible refine (cmp_isNaN_int.calls a0 false _ A3.out).mono ?_); rintro e w' ⟨rfl, ⟨nd, rfl⟩⟩; refine ⟨_, rfl, ?_⟩) | ((with_reducible refine gate_callee (f := 123) rfl ?_); refine goesL_ (some 10) rfl rfl Try.func123 (by kernel_rfl) rfl #[.int .i64 a1] rfl (by (try simp only [List.map_toArray, List.map_cons, List.map_nil]); first | done | rfl | (simp only [List.length_drop, List.length_take]; rfl)) ?_; (with_reducible refine (cmp_isNaN_int.calls a1 false _ A4.out).mono ?_); rintro e w' ⟨rfl, ⟨nd, rfl⟩⟩; refine ⟨_, rfl, ?_⟩))
    go_ret
    exact ⟨fs, by repeat (first | exact Drawn0.refl _ | apply Drawn0.step)⟩
   ·rw [if_neg c8] at H
    have c8b0 : decide (a0 < a1) = false := decide_eq_false c8
    clear c8
    by_cases c9 : a0 > a1
    ·rw [if_pos c9] at H
     have c9b0 : decide (a1 < a0) = true := decide_eq_true c9
     clear c9
     obtain rfl := Option.some.inj H
     go_enter Try.func103, Try.ntmps103
     go_wp2_with (first | ((with_reducible refine gate_callee (f := 123) rfl ?_); refine goesL_ (some 8) rfl rfl Try.func123 (by kernel_rfl) rfl #[.int .i64 a0] rfl (by (try simp only [List.map_toArray, List.map_cons, List.map_nil]); first | done | rfl | (simp only [List.length_drop, List.length_take]; rfl)) ?_; (with_reducible refine (cmp_isNaN_int.calls a0 false _ A3.out).mono ?_); rintro e w' ⟨rfl, ⟨nd, rfl⟩⟩; refine ⟨_, rfl, ?_⟩) | ((with_reducible refine gate_callee (f := 123) rfl ?_); refine goesL_ (some 10) rfl rfl Try.func123 (by kernel_rfl) rfl #[.int .i64 a1] rfl (by (try simp only [List.map_toArray, List.map_cons, List.map_nil]); first | done | rfl | (simp only [List.length_drop, List.length_take]; rfl)) ?_; (with_reducible refine (cmp_isNaN_int.calls a1 false _ A4.out).mono ?_); rintro e w' ⟨rfl, ⟨nd, rfl⟩⟩; refine ⟨_, rfl, ?_⟩))
     go_ret
     exact ⟨fs, by repeat (first | exact Drawn0.refl _ | apply Drawn0.step)⟩
    ·rw [if_neg c9] at H
     have c9b0 : decide (a1 < a0) = false := decide_eq_false c9
     clear c9
     obtain rfl := Option.some.inj H
     go_enter Try.func103, Try.ntmps103
     go_wp2_with (first | ((with_reducible refine gate_callee (f := 123) rfl ?_); refine goesL_ (some 8) rfl rfl Try.func123 (by kernel_rfl) rfl #[.int .i64 a0] rfl (by (try simp only [List.map_toArray, List.map_cons, List.map_nil]); first | done | rfl | (simp only [List.length_drop, List.length_take]; rfl)) ?_; (with_reducible refine (cmp_isNaN_int.calls a0 false _ A3.out).mono ?_); rintro e w' ⟨rfl, ⟨nd, rfl⟩⟩; refine ⟨_, rfl, ?_⟩) | ((with_reducible refine gate_callee (f := 123) rfl ?_); refine goesL_ (some 10) rfl rfl Try.func123 (by kernel_rfl) rfl #[.int .i64 a1] rfl (by (try simp only [List.map_toArray, List.map_cons, List.map_nil]); first | done | rfl | (simp only [List.length_drop, List.length_take]; rfl)) ?_; (with_reducible refine (cmp_isNaN_int.calls a1 false _ A4.out).mono ?_); rintro e w' ⟨rfl, ⟨nd, rfl⟩⟩; refine ⟨_, rfl, ?_⟩))
     go_ret
     exact ⟨fs, by repeat (first | exact Drawn0.refl _ | apply Drawn0.step)⟩

/-! ### slices_Compare_int_int: function 82 -/
-- IMPORT HSq
def slices_Compare_int_int.l0 : Nat → List Int → List Int → List Int → Int → Int → Option (Int)
 | 0, _, _, _, _, _ => none
 | k + 1, x0, x1, x9, x10, x11 => if x11 < x10 then (if 0 ≤ x11 then (if x11 < (x9.length : Int) then (if x11 ≥ (x1.length : Int) then (some 1) else (if x11 < (x1.length : Int) then ((cmp_Compare_int.f (rd x9 x11) (rd x1 x11)).bind fun t596 => (if t596 = 0 then (slices_Compare_int_int.l0 k x0 x1 x9 x10 (wrap64 (x11 + 1))) else (some t596))) else (none))) else (none)) else (none)) else (if (x0.length : Int) < (x1.length : Int) then (some (-1)) else (some 0))
def slices_Compare_int_int.f (k : Nat) (l0 : List Int) (l1 : List Int) : Option (Int) := slices_Compare_int_int.l0 k l0 l1 l0 (l0.length : Int) 0
set_option maxHeartbeats 8000000 in
set_option maxRecDepth 100000 in
theorem slices_Compare_int_int.calls (k : Nat) (A0 : Option Addr) (c0 : Nat) (l0 : List Int) (A1 : Option Addr) (c1 : Nat) (l1 : List Int) (r : Int) (w : World) (hr0 : Kd.C (Kd.int .i64) w A0 l0.length l0) (hc0 : l0.length ≤ c0) (hr1 : Kd.C (Kd.int .i64) w A1 l1.length l1) (hc1 : l1.length ≤ c1) (h : slices_Compare_int_int.f k l0 l1 = some r) :
  Calls Try.prog 82 #[.slice A0 l0.length c0, .slice A1 l1.length c1] w fun e w' => e = .returned (.int .i64 r) ∧ Drawn0 w w' := by
 have HR0 := Aside0.mk hr0
 have HC0 := Aside0.mk hc0
 clear hr0 hc0
 have HR1 := Aside0.mk hr1
 have HC1 := Aside0.mk hc1
 clear hr1 hc1
 have H : (slices_Compare_int_int.l0 k l0 l1 l0 (l0.length : Int) 0) = some r := h
 clear h
 have H' := Aside0.mk H
 clear H
 go_enter Try.func82, Try.ntmps82
 go_wp2
 go_loopg [11] k (fun kq v11 w' => ∃ (x11_1 : Int), v11 = .int .i64 x11_1 ∧ Aside0 (slices_Compare_int_int.l0 kq l0 l1 l0 (l0.length : Int) x11_1 = some r) ∧ Aside0 (kq ≤ k) ∧ Drawn0 w w')
 case atStart => exact ⟨(0), fs, H', ⟨Nat.le_refl _⟩, by repeat (first | exact Drawn0.refl _ | apply Drawn0.step)⟩
 case round =>
  clear H'
  try clear c1
  try clear p2
  obtain ⟨x11_1, rfl, HA, HK1, ⟨m1, rfl⟩⟩ := hrel
  cases gk with
  | zero => exact absurd HA.out (by simp [slices_Compare_int_int.l0])
  | succ k1 =>
   have H := HA.out
   clear HA
   simp only [slices_Compare_int_int.l0] at H
   by_cases c3 : x11_1 < (l0.length : Int)
   ·rw [if_pos c3] at H
    have c3b0 : decide (x11_1 < (l0.length : Int)) = true := decide_eq_true c3
    clear c3
    by_cases c4 : 0 ≤ x11_1
    ·rw [if_pos c4] at H
     have c4b0 : decide (0 ≤ x11_1) = true := decide_eq_true c4
     clear c4
     by_cases c5 : x11_1 < (l0.length : Int)
     ·rw [if_pos c5] at H
      have c5b0 : decide (x11_1 < (l0.length : Int)) = true := decide_eq_true c5
      clear c5
      by_cases c6 : x11_1 ≥ (l1.length : Int)
      ·rw [if_pos c6] at H
       have c6b0 : decide ((l1.length : Int) ≤ x11_1) = true := decide_eq_true c6
       clear c6
       obtain rfl := Option.some.inj H
       have p594 : 0 ≤ (x11_1 : Int) := od
       have q594 : x11_1 < (l0.length : Int) := od
       obtain ⟨ad594, e594, hx594_0⟩ := Kd.at_int HR0.out x11_1 p594 q594
       cases e594
       replace p594 := eq_true p594
       replace q594 := eq_true q594
       go_wp2
       go_ret
       exact ⟨fs, by repeat (first | exact Drawn0.refl _ | apply Drawn0.step)⟩
      ·rw [if_neg c6] at H
       have c6b0 : decide ((l1.length : Int) ≤ x11_1) = false := decide_eq_false c6
       clear c6
       by_cases c7 : x11_1 < (l1.length : Int)
       ·rw [if_pos c7] at H
        have c7b0 : decide (x11_1 < (l1.length : Int)) = true := decide_eq_true c7
        clear c7
        replace H := Option.bind_eq_some_iff.mp H
        obtain ⟨t596, A80, H⟩ := H
        try dsimp only at H
        have A8 := Aside0.mk A80
        clear A80
        by_cases c9 : t596 = 0
        ·rw [if_pos c9] at H
         have c9b0 : (t596 == 0) = true := beq_iff_eq.mpr c9
         have c9b1 : (t596 != 0) = false := bne_eq_false_iff_eq.mpr c9
         clear c9
         have H' := Aside0.mk H
         clear H
         have p594 : 0 ≤ (x11_1 : Int) := od
         have q594 : x11_1 < (l0.length : Int) := od
         obtain ⟨ad594, e594, hx594_0⟩ := Kd.at_int HR0.out x11_1 p594 q594
         cases e594
         replace p594 := eq_true p594
         replace q594 := eq_true q594
         have p595 : 0 ≤ (x11_1 : Int) := od
         have q595 : x11_1 < (l1.length : Int) := od
         obtain ⟨ad595, e595, hx595_0⟩ := Kd.at_int HR1.out x11_1 p595 q595
         cases e595
         replace p595 := eq_true p595
         replace q595 := eq_true q595
         go_wp2_with (first | ((with_reducible refine gate_callee (f := 103) rfl ?_); refine goesL_ (some 26) rfl rfl Try.func103 (by kernel_rfl) rfl #[.int .i64 (rd l0 x11_1), .int .i64 (rd l1 x11_1)] rfl (by (try simp only [List.map_toArray, List.map_cons, List.map_nil]); first | done | rfl | (simp only [List.length_drop, List.length_take]; rfl)) ?_; (with_reducible refine (cmp_Compare_int.calls (rd l0 x11_1) (rd l1 x11_1) t596 _ A8.out).mono ?_); rintro e w' ⟨rfl, ⟨nd, rfl⟩⟩; refine ⟨_, rfl, ?_⟩))
         go_roundg k1
         case measure => have := HK1.out; omega
         case rel => exact ⟨(wrap64 (x11_1 + 1)), fs, H', ⟨by have := HK1.out; omega⟩, by repeat (first | exact Drawn0.refl _ | apply Drawn0.step)⟩
        ·rw [if_neg c9] at H
         have c9b0 : (t596 == 0) = false := beq_eq_false_iff_ne.mpr c9
         have c9b1 : (t596 != 0) = true := bne_iff_ne.mpr c9
         obtain rfl := Option.some.inj H
         have p594 : 0 ≤ (x11_1 : Int) := od
         have q594 : x11_1 < (l0.length : Int) := od
         obtain ⟨ad594, e594, hx594_0⟩ := Kd.at_int HR0.out x11_1 p594 q594
         cases e594
         replace p594 := eq_true p594
         replace q594 := eq_true q594
         have p595 : 0 ≤ (x11_1 : Int) := od
         have q595 : x11_1 < (l1.length : Int) := od
         obtain ⟨ad595, e595, hx595_0⟩ := Kd.at_int HR1.out x11_1 p595 q595
         cases e595
         replace p595 := eq_true p595
         replace q595 := eq_true q595
         go_wp2_with (first | ((with_reducible refine gate_callee (f := 103) rfl ?_); refine goesL_ (some 26) rfl rfl Try.func103 (by kernel_rfl) rfl #[.int .i64 (rd l0 x11_1), .int .i64 (rd l1 x11_1)] rfl (by (try simp only [List.map_toArray, List.map_cons, List.map_nil]); first | done | rfl | (simp only [List.length_drop, List.length_take]; rfl)) ?_; (with_reducible refine (cmp_Compare_int.calls (rd l0 x11_1) (rd l1 x11_1) t596 _ A8.out).mono ?_); rintro e w' ⟨rfl, ⟨nd, rfl⟩⟩; refine ⟨_, rfl, ?_⟩))
         go_ret
         exact ⟨fs, by repeat (first | exact Drawn0.refl _ | apply Drawn0.step)⟩
       ·rw [if_neg c7] at H
        exact absurd H (by simp)
     ·rw [if_neg c5] at H
      exact absurd H (by simp)
    ·rw [if_neg c4] at H
     exact absurd H (by simp)
   ·rw [if_neg c3] at H
    have c3b0 : decide (x11_1 < (l0.length : Int)) = false := decide_eq_false c3
    clear c3
    by_cases c10 : (l0.length : Int) < (l1.length : Int)
    ·rw [if_pos c10] at H
     have c10b0 : decide ((l0.length : Int) < (l1.length : Int)) = true := decide_eq_true c10
     have c10b1 : decide (l0.length < l1.length) = true := decide_eq_true (Int.ofNat_lt.mp c10)
     clear c10
     obtain rfl := Option.some.inj H
     go_wp2
     go_ret
     exact ⟨fs, by repeat (first | exact Drawn0.refl _ | apply Drawn0.step)⟩
    ·rw [if_neg c10] at H
     have c10b0 : decide ((l0.length : Int) < (l1.length : Int)) = false := decide_eq_false c10
     have c10b1 : decide (l0.length < l1.length) = false := decide_eq_false (fun h => c10 (Int.ofNat_lt.mpr h))
     clear c10
     obtain rfl := Option.some.inj H
     go_wp2
     go_ret
     exact ⟨fs, by repeat (first | exact Drawn0.refl _ | apply Drawn0.step)⟩

/-! ### impl_NextClaims: function 47 -/
-- IMPORT HSq
def impl_NextClaims.sel (i a b : Int) : Int := if i = 0 then a else b
theorem impl_NextClaims.two {a b i : Int} (h0 : decide (0 ≤ i) = true) (h1 : decide (i < 2) = true) (w : World) : (Instr.index 83 (.agg #[.int .i64 a, .int .i64 b]) (.int .i64 i)).run Try.prog w = .ok (.int .i64 (impl_NextClaims.sel i a b)) w := by
 have h0' := of_decide_eq_true h0
 have h1' := of_decide_eq_true h1
 obtain rfl | rfl : i = 0 ∨ i = 1 := by omega
 ·exact (show ∀ (a b : Int) (w : World), (Instr.index 83 (.agg #[.int .i64 a, .int .i64 b]) (.int .i64 0)).run Try.prog w = .ok (.int .i64 a) w from fun _ _ _ => by kernel_rfl) a b w
 ·exact (show ∀ (a b : Int) (w : World), (Instr.index 83 (.agg #[.int .i64 a, .int .i64 b]) (.int .i64 1)).run Try.prog w = .ok (.int .i64 b) w from fun _ _ _ => by kernel_rfl) a b w
attribute [local go_sem] impl_NextClaims.two
mutual
def impl_NextClaims.j0 : Nat → Int → List (S44) → List (List Int) → Bool → Option ((List (List Int)))
 | 0, _, _, _, _ => none
 | k + 1, x0, x1, x2, x29 => if x29 = true then (some ([] : List (List Int))) else ((impl_FirstClaims.f k x0).bind fun t599 => (impl_NextClaims.l0 k x2 t599 x1 (x1.length : Int) 0))
def impl_NextClaims.l0 : Nat → List (List Int) → List (List Int) → List (S44) → Int → Int → Option ((List (List Int)))
 | 0, _, _, _, _, _ => none
 | k + 1, x2, x7, x32, x33, x34 => if x34 < x33 then (if 0 ≤ x34 then (if x34 < (x32.length : Int) then (impl_NextClaims.l1 k x2 x7 x34 x32 x33 x34 0 ((rd_T44 x32 x34).f0) ((rd_T44 x32 x34).f1) ((rd_T44 x32 x34).f2)) else (none)) else (none)) else (some x7)
def impl_NextClaims.l1 : Nat → List (List Int) → List (List Int) → Int → List (S44) → Int → Int → Int → Int → Int → Int → Option ((List (List Int)))
 | 0, _, _, _, _, _, _, _, _, _, _ => none
 | k + 1, x2, x7, x8, x32, x33, x34, x44, x604000, x604001, x604002 => if x44 < 2 then (if 0 ≤ x44 then ((impl_Cable_other.f x604000 x604001 x604002 (impl_NextClaims.sel x44 ((rd_T44 x32 x34).f0) ((rd_T44 x32 x34).f1))).bind fun bt604 => (if 0 ≤ bt604.1 then (if bt604.1 < (x2.length : Int) then (if 0 < ((rd_L5 x2 bt604.1).length : Int) then (if 1 < ((rd_L5 x2 bt604.1).length : Int) then ((some (([rd (rd_L5 x2 bt604.1) 0, wrap64 ((rd (rd_L5 x2 bt604.1) 1) + x604002), bt604.1, x8] : List Int) : List Int)).bind fun y610 => (if 0 ≤ (impl_NextClaims.sel x44 ((rd_T44 x32 x34).f0) ((rd_T44 x32 x34).f1)) then (if (impl_NextClaims.sel x44 ((rd_T44 x32 x34).f0) ((rd_T44 x32 x34).f1)) < (x7.length : Int) then ((slices_Compare_int_int.f k y610 (rd_L5 x7 (impl_NextClaims.sel x44 ((rd_T44 x32 x34).f0) ((rd_T44 x32 x34).f1)))).bind fun t614 => (if t614 < 0 then (impl_NextClaims.l1 k x2 (x7.set ((impl_NextClaims.sel x44 ((rd_T44 x32 x34).f0) ((rd_T44 x32 x34).f1)) : Int).toNat y610) x8 x32 x33 x34 (wrap64 (x44 + 1)) x604000 x604001 x604002) else (impl_NextClaims.l1 k x2 x7 x8 x32 x33 x34 (wrap64 (x44 + 1)) x604000 x604001 x604002))) else (none)) else (none))) else (none)) else (none)) else (none)) else (none))) else (none)) else (impl_NextClaims.l0 k x2 x7 x32 x33 (wrap64 (x34 + 1)))
end
def impl_NextClaims.f (k : Nat) (a0 : Int) (l1 : List (S44)) (l2 : List (List Int)) : Option ((List (List Int))) := (impl_CablesValid.f a0 l1).bind fun t597 => (if t597 = true then (if (l2.length : Int) = a0 then ((impl_all_NextClaims.f l2).bind fun t598 => (impl_NextClaims.j0 k a0 l1 l2 (!t598))) else (impl_NextClaims.j0 k a0 l1 l2 true)) else (impl_NextClaims.j0 k a0 l1 l2 true))
def impl_NextClaims.T11 : Bool × List (List Nat × List Nat) := (true, [([], []), ([], []), ([0, 1], [0, 1]), ([2], [2]), ([3], [3]), ([4], [4]), ([], []), ([], []), ([6, 7], [6, 7]), ([8], [8]), ([9], [9]), ([10], [10]), ([], []), ([12], [12]), ([11, 13], [11, 13]), ([], []), ([], []), ([5, 14, 15, 16], [5, 14, 15, 16]), ([17, 0, 1, 2, 3, 4, 5, 6, 7, 8, 9, 10, 11, 12, 13, 14, 15, 16, 17], [17])])
def impl_NextClaims.B11 : List Nat := [0, 0, 3, 7, 15, 31, 0, 0, 192, 448, 960, 1984, 0, 4096, 16320, 0, 0, 131071, 262143]
theorem impl_NextClaims.tab11 : rtab .any (opsOf Try.f47 11) = impl_NextClaims.T11 := by kernel_rfl
theorem impl_NextClaims.bits11 : waitsOk impl_NextClaims.T11.2 impl_NextClaims.B11 = true := by kernel_rfl
set_option maxHeartbeats 8000000 in
set_option maxRecDepth 100000 in
theorem impl_NextClaims.calls (k : Nat) (a0 : Int) (A1 : Option Addr) (c1 : Nat) (l1 : List (S44)) (A2 : Option Addr) (c2 : Nat) (l2 : List (List Int)) (r : List (List Int)) (w : World) (hr1 : Kd.C k44 w A1 l1.length l1) (hc1 : l1.length ≤ c1) (hr2 : Kd.C (Kd.slice 3 (Kd.int .i64)) w A2 l2.length l2) (hc2 : l2.length ≤ c2) (h : impl_NextClaims.f k a0 l1 l2 = some r) :
  Calls Try.prog 47 #[.int .i64 a0, .slice A1 l1.length c1, .slice A2 l2.length c2] w fun e w' => ∃ v0_ : Value, e = .returned (v0_) ∧ Kd.S (Kd.slice 3 (Kd.int .i64)) 24 w' w.heap.size (fun _ => True) v0_ r ∧ Below w.heap.size w w' := by
 have hu44 := Try.underlying44
 have hu83 := Try.underlying83
 have HR1 := Aside0.mk hr1
 have HC1 := Aside0.mk hc1
 clear hr1 hc1
 have HR2 := Aside0.mk hr2
 have HC2 := Aside0.mk hc2
 clear hr2 hc2
 have HB := Aside0.mk (Below.refl w.heap.size w)
 have H : ((impl_CablesValid.f a0 l1).bind fun t597 => (if t597 = true then (if (l2.length : Int) = a0 then ((impl_all_NextClaims.f l2).bind fun t598 => (impl_NextClaims.j0 k a0 l1 l2 (!t598))) else (impl_NextClaims.j0 k a0 l1 l2 true)) else (impl_NextClaims.j0 k a0 l1 l2 true))) = some r := h
 clear h
 have HC4 := Aside0.mk H
 clear H
 go_enter Try.func47, Try.ntmps47
 go_upto_region 1 with (fail)
 go_cut [29] (fun v29 wc => ∃ (kq : Nat) (x29_3 : Bool), v29 = .bool x29_3 ∧ Aside0 (impl_NextClaims.j0 kq a0 l1 l2 x29_3 = some r) ∧ Aside0 (kq ≤ k) ∧ Aside0 (Below w.heap.size w wc))
 case first =>
  have H := HC4.out
  clear HC4
  replace H := Option.bind_eq_some_iff.mp H
  obtain ⟨t597, A50, H⟩ := H
  try dsimp only at H
  have A5 := Aside0.mk A50
  clear A50
  by_cases c6 : t597 = true
  ·subst c6
   rw [if_pos rfl] at H
   by_cases c7 : (l2.length : Int) = a0
   ·rw [if_pos c7] at H
    have c7b0 : ((l2.length : Int) == a0) = true := beq_iff_eq.mpr c7
    have c7b1 : ((l2.length : Int) != a0) = false := bne_eq_false_iff_eq.mpr c7
    clear c7
    (first | rw [c7b0] | (simp only [i64_w, i32_w]; rw [c7b0]) | skip)
    replace H := Option.bind_eq_some_iff.mp H
    obtain ⟨t598, A80, H⟩ := H
    try dsimp only at H
    have A8 := Aside0.mk A80
    clear A80
    have H' := Aside0.mk H
    clear H
    go_wp2_with (first | ((with_reducible refine gate_callee (f := 35) rfl ?_); refine goesL_ (some 17) rfl rfl Try.func35 (by kernel_rfl) rfl #[.int .i64 a0, .slice A1 l1.length c1] rfl (by (try simp only [List.map_toArray, List.map_cons, List.map_nil]); first | done | rfl | (simp only [List.length_drop, List.length_take]; rfl)) ?_; (with_reducible refine (impl_CablesValid.calls a0 _ _ l1 true _ ?side1 ?side2 A5.out).mono ?_); (case side1 => repeat (first | exact (Kd.C_below HR1.out HB.out) | (with_reducible refine Kd.C_alloc ?_ _) | (with_reducible refine Kd.C_drewN ?_ _) | (with_reducible refine Kd.C_drew ?_))); (case side2 => exact HC1.out); rintro e w9 ⟨rfl, hb⟩; refine ⟨_, rfl, ?_⟩; have n0_ := Aside0.mk (below_step (bw HB.out) hb); clear HB; have HB := n0_; clear n0_; (try clear hb); (try clear hb2); (try clear hk); (try clear hi)) | (go_at_call 79; (with_reducible refine (impl_all_NextClaims.calls _ _ l2 t598 _ ?side1 ?side2 A8.out).mono ?_); (case side1 => repeat (first | exact (Kd.C_below HR2.out HB.out) | (with_reducible refine Kd.C_alloc ?_ _) | (with_reducible refine Kd.C_drewN ?_ _) | (with_reducible refine Kd.C_drew ?_))); (case side2 => exact HC2.out); rintro e w10 ⟨rfl, hb⟩; have n0_ := Aside0.mk (below_step (bw HB.out) hb); clear HB; have HB := n0_; clear n0_; (try clear hb); (try clear hb2); (try clear hk); (try clear hi)))
    go_meet
    case rel => exact ⟨_, (!t598), fs, H', ⟨by first | omega | exact Nat.le_refl _⟩, ⟨bw HB.out⟩⟩
   ·rw [if_neg c7] at H
    have c7b0 : ((l2.length : Int) == a0) = false := beq_eq_false_iff_ne.mpr c7
    have c7b1 : ((l2.length : Int) != a0) = true := bne_iff_ne.mpr c7
    (first | rw [c7b0] | (simp only [i64_w, i32_w]; rw [c7b0]) | skip)
    have H' := Aside0.mk H
    clear H
    go_wp2_with (first | ((with_reducible refine gate_callee (f := 35) rfl ?_); refine goesL_ (some 17) rfl rfl Try.func35 (by kernel_rfl) rfl #[.int .i64 a0, .slice A1 l1.length c1] rfl (by (try simp only [List.map_toArray, List.map_cons, List.map_nil]); first | done | rfl | (simp only [List.length_drop, List.length_take]; rfl)) ?_; (with_reducible refine (impl_CablesValid.calls a0 _ _ l1 true _ ?side1 ?side2 A5.out).mono ?_); (case side1 => repeat (first | exact (Kd.C_below HR1.out HB.out) | (with_reducible refine Kd.C_alloc ?_ _) | (with_reducible refine Kd.C_drewN ?_ _) | (with_reducible refine Kd.C_drew ?_))); (case side2 => exact HC1.out); rintro e w11 ⟨rfl, hb⟩; refine ⟨_, rfl, ?_⟩; have n0_ := Aside0.mk (below_step (bw HB.out) hb); clear HB; have HB := n0_; clear n0_; (try clear hb); (try clear hb2); (try clear hk); (try clear hi)))
    go_meet
    case rel => exact ⟨_, (true), fs, H', ⟨by first | omega | exact Nat.le_refl _⟩, ⟨bw HB.out⟩⟩
  ·replace c6 := Bool.eq_false_iff.mpr c6
   subst c6
   rw [if_neg (show ¬ (false = true) by decide)] at H
   have H' := Aside0.mk H
   clear H
   go_wp2_with (first | ((with_reducible refine gate_callee (f := 35) rfl ?_); refine goesL_ (some 17) rfl rfl Try.func35 (by kernel_rfl) rfl #[.int .i64 a0, .slice A1 l1.length c1] rfl (by (try simp only [List.map_toArray, List.map_cons, List.map_nil]); first | done | rfl | (simp only [List.length_drop, List.length_take]; rfl)) ?_; (with_reducible refine (impl_CablesValid.calls a0 _ _ l1 false _ ?side1 ?side2 A5.out).mono ?_); (case side1 => repeat (first | exact (Kd.C_below HR1.out HB.out) | (with_reducible refine Kd.C_alloc ?_ _) | (with_reducible refine Kd.C_drewN ?_ _) | (with_reducible refine Kd.C_drew ?_))); (case side2 => exact HC1.out); rintro e w12 ⟨rfl, hb⟩; refine ⟨_, rfl, ?_⟩; have n0_ := Aside0.mk (below_step (bw HB.out) hb); clear HB; have HB := n0_; clear n0_; (try clear hb); (try clear hb2); (try clear hk); (try clear hi)))
   go_meet
   case rel => exact ⟨_, (true), fs, H', ⟨by first | omega | exact Nat.le_refl _⟩, ⟨bw HB.out⟩⟩
 case rest =>
  clear HC4
  try clear c1
  try clear c2
  try clear p2
  try clear c3
  try clear c4
  try clear c6
  try clear c7
  try clear c7b0
  try clear c7b1
  obtain ⟨kq, x29_3, rfl, HA, HJ3, HB⟩ := hcut
  cases kq with
  | zero => exact absurd HA.out (by simp [impl_NextClaims.j0])
  | succ kj3 =>
   have H := HA.out
   clear HA
   simp only [impl_NextClaims.j0] at H
   by_cases c13 : x29_3 = true
   ·subst c13
    rw [if_pos rfl] at H
    obtain rfl := Option.some.inj H
    go_wp2
    go_ret
    exact ⟨_, fe, by first | exact Kd.S_nil _ _ _ _ _ | exact Kd.N_nil _ _ _ _ _ | exact Kd.V_nil _ _ _ _ _ | exact Kd.Q_nil _ _ _ _ _ | exact Kd.R_nil _ _ _ _ _, bw HB.out⟩
   ·replace c13 := Bool.eq_false_iff.mpr c13
    subst c13
    rw [if_neg (show ¬ (false = true) by decide)] at H
    replace H := Option.bind_eq_some_iff.mp H
    obtain ⟨t599, A140, H⟩ := H
    try dsimp only at H
    have A14 := Aside0.mk A140
    clear A140
    have H' := Aside0.mk H
    clear H
    go_wp2_with (first | ((with_reducible refine gate_callee (f := 30) rfl ?_); refine goesL_ (some 31) rfl rfl Try.func30 (by kernel_rfl) rfl #[.int .i64 a0] rfl (by (try simp only [List.map_toArray, List.map_cons, List.map_nil]); first | done | rfl | (simp only [List.length_drop, List.length_take]; rfl)) ?_; (with_reducible refine (impl_FirstClaims.calls kj3 a0 t599 _ A14.out).mono ?_); rintro e w15 ⟨v600, rfl, ho0, hb⟩; refine ⟨_, rfl, ?_⟩; have n0_ := Aside0.mk (Kd.S_lower ho0 (below_size (bw HB.out))); have n1_ := Aside0.mk (below_step (bw HB.out) hb); clear HB; have HO601 := n0_; have HB := n1_; clear n0_ n1_; (try clear hb); (try clear hb2); (try clear hk); (try clear hi); (try clear ho0)))
    go_loopg [34] kj3 (fun kq v34 w' => ∃ (x7_2 : List (List Int)) (x34_2 : Int), v34 = .int .i64 x34_2 ∧ Aside0 (impl_NextClaims.l0 kq l2 x7_2 l1 (l1.length : Int) x34_2 = some r) ∧ Aside0 (kq ≤ kj3) ∧ Aside0 (Kd.S (Kd.slice 3 (Kd.int .i64)) 24 w' w.heap.size (fun _ => True) v600 x7_2) ∧ Aside0 (Below w.heap.size w w'))
    case atStart => exact ⟨(t599), (0), fs, H', ⟨Nat.le_refl _⟩, ⟨by (with_reducible repeat (first | apply Kd.S_alloc | apply Kd.S_drewN | apply Kd.S_drew)); exact HO601.out⟩, ⟨bw HB.out⟩⟩
    case round =>
     clear H'
     try clear c1
     try clear c2
     try clear p2
     try clear c3
     try clear c4
     try clear c6
     try clear c7
     try clear c7b0
     try clear c7b1
     try clear c13
     try clear p2
     obtain ⟨x7_2, x34_2, rfl, HA, HK2, HO_7, HB⟩ := hrel
     cases gk with
     | zero => exact absurd HA.out (by simp [impl_NextClaims.l0])
     | succ k2 =>
      have H := HA.out
      clear HA
      simp only [impl_NextClaims.l0] at H
      by_cases c16 : x34_2 < (l1.length : Int)
      ·rw [if_pos c16] at H
       have c16b0 : decide (x34_2 < (l1.length : Int)) = true := decide_eq_true c16
       clear c16
       by_cases c17 : 0 ≤ x34_2
       ·rw [if_pos c17] at H
        have c17b0 : decide (0 ≤ x34_2) = true := decide_eq_true c17
        clear c17
        by_cases c18 : x34_2 < (l1.length : Int)
        ·rw [if_pos c18] at H
         have c18b0 : decide (x34_2 < (l1.length : Int)) = true := decide_eq_true c18
         clear c18
         have H' := Aside0.mk H
         clear H
         have p602 : 0 ≤ (x34_2 : Int) := od
         have q602 : x34_2 < (l1.length : Int) := od
         obtain ⟨ad602, e602, hx602_0, hx602_1, hx602_2⟩ := at_T44 HR1.out x34_2 p602 q602
         cases e602
         (try replace hx602_0 := (HB.out.cell (World.block_lt_of_cell? w _ hx602_0)).trans hx602_0)
         (try replace hx602_1 := (HB.out.cell (World.block_lt_of_cell? w _ hx602_1)).trans hx602_1)
         (try replace hx602_2 := (HB.out.cell (World.block_lt_of_cell? w _ hx602_2)).trans hx602_2)
         replace p602 := eq_true p602
         replace q602 := eq_true q602
         go_wp2_with (first | ((with_reducible refine gate_dst (N := 9) rfl ?_); (try (refine gate_guard (by rfl) ?_; dsimp only)); refine box_event ?hg (N := 9) ?hd (cs := #[.int .i64 0, .int .i64 0, .int .i64 0]) (t := 44) ?hr ?_; (case hd => rfl); (case hg => rfl); (case hr => first | (go_simp; done) | (go_simp; rfl)); intro gb603 hg w19 hbox hb; have n0_ := Aside0.mk (Kd.S_below (by (with_reducible repeat (first | apply Kd.S_alloc | apply Kd.S_drewN | apply Kd.S_drew)); exact HO_7.out) hb); have n1_ := Aside0.mk (below_step (bw HB.out) hb); have n2_ := Aside0.mk (hbox); have n3_ := Aside0.mk ((by rw [hg]; exact (below_size (bw HB.out)) : w.heap.size ≤ gb603)); have n4_ := Aside0.mk ((by rw [hg]; exact (below_size (bw HB.out)) : w.heap.size ≤ gb603)); clear HO_7; clear HB; have HO_7 := n0_; have HB := n1_; have BK603 := n2_; have GW603 := n3_; have GE603 := n4_; clear n0_ n1_ n2_ n3_ n4_; clear hb hbox hg; have hcz20_0 : w19.cell? ⟨gb603, 0, none⟩ = some (.int .i64 0) := (blk_cell BK603.out 0).trans rfl; have hcz20_1 : w19.cell? ⟨gb603, 1, none⟩ = some (.int .i64 0) := (blk_cell BK603.out 1).trans rfl; have hcz20_2 : w19.cell? ⟨gb603, 2, none⟩ = some (.int .i64 0) := (blk_cell BK603.out 2).trans rfl; have hfz20_0 := blk_frozen BK603.out 0; have hfz20_1 := blk_frozen BK603.out 1; have hfz20_2 := blk_frozen BK603.out 2))
         go_loopg [44] k2 (fun kq v44 w' => ∃ (x7_3 : List (List Int)) (x44_3 : Int), v44 = .int .i64 x44_3 ∧ Aside0 (impl_NextClaims.l1 kq l2 x7_3 x34_2 l1 (l1.length : Int) x34_2 x44_3 ((rd_T44 l1 x34_2).f0) ((rd_T44 l1 x34_2).f1) ((rd_T44 l1 x34_2).f2) = some r) ∧ Aside0 (kq ≤ k2) ∧ Aside0 (Kd.S (Kd.slice 3 (Kd.int .i64)) 24 w' w.heap.size (fun _ => True) v600 x7_3) ∧ Aside0 (w'.heap[gb603]? = some (.cells #[.int .i64 ((rd_T44 l1 x34_2).f0), .int .i64 ((rd_T44 l1 x34_2).f1), .int .i64 ((rd_T44 l1 x34_2).f2)] 44 (0, 0))) ∧ Aside0 (Below w.heap.size w w'))
         case atStart => exact ⟨(x7_2), (0), fs, H', ⟨Nat.le_refl _⟩, ⟨by (with_reducible repeat (first | apply Kd.S_alloc | apply Kd.S_drewN | apply Kd.S_drew)); exact Kd.S_mono (Kd.S_far (p := ⟨gb603, 2, none⟩) (Kd.S_far (p := ⟨gb603, 1, none⟩) (Kd.S_far (p := ⟨gb603, 0, none⟩) (Kd.S_types HO_7.out BK603.out (by decide)) (fun _ hk => hk.2) (.int .i64 ((rd_T44 l1 x34_2).f0))) (fun _ hk => hk.2) (.int .i64 ((rd_T44 l1 x34_2).f1))) (fun _ hk => hk.2) (.int .i64 ((rd_T44 l1 x34_2).f2))) (fun _ hk => trivial)⟩, ⟨by (with_reducible repeat (first | refine blk_drewN ?_ _ | refine blk_drew ?_ | refine blk_alloc ?_ _)); refine blk_put (cs := #[.int .i64 ((rd_T44 l1 x34_2).f0), .int .i64 ((rd_T44 l1 x34_2).f1), .int .i64 0]) ?_ 2 _ rfl; (with_reducible repeat (first | refine blk_drewN ?_ _ | refine blk_drew ?_ | refine blk_alloc ?_ _)); refine blk_put (cs := #[.int .i64 ((rd_T44 l1 x34_2).f0), .int .i64 0, .int .i64 0]) ?_ 1 _ rfl; (with_reducible repeat (first | refine blk_drewN ?_ _ | refine blk_drew ?_ | refine blk_alloc ?_ _)); refine blk_put (cs := #[.int .i64 0, .int .i64 0, .int .i64 0]) ?_ 0 _ rfl; (with_reducible repeat (first | refine blk_drewN ?_ _ | refine blk_drew ?_ | refine blk_alloc ?_ _)); exact BK603.out⟩, ⟨bw HB.out⟩⟩
         case round =>
          clear H'
          try clear c1
          try clear c2
          try clear p2
          try clear c3
          try clear c4
          try clear c6
          try clear p6
          try clear q6
          try clear hx6
          try clear c7
          try clear c7b0
          try clear c7b1
          try clear c13
          try clear c16
          try clear c16b0
          try clear c17
          try clear c17b0
          try clear c18
          try clear c18b0
          try clear hcz20_0
          try clear hcz20_1
          try clear hcz20_2
          try clear hfz20_0
          try clear hfz20_1
          try clear hfz20_2
          try clear hx602_0
          try clear hx602_1
          try clear hx602_2
          try clear p2
          try clear p602
          try clear q602
          obtain ⟨x7_3, x44_3, rfl, HA, HK3, HO_7, BK603, HB⟩ := hrel
          cases gk with
          | zero => exact absurd HA.out (by simp [impl_NextClaims.l1])
          | succ k3 =>
           have H := HA.out
           clear HA
           simp only [impl_NextClaims.l1] at H
           by_cases c21 : x44_3 < 2
           ·rw [if_pos c21] at H
            have c21b0 : decide (x44_3 < 2) = true := decide_eq_true c21
            clear c21
            by_cases c22 : 0 ≤ x44_3
            ·rw [if_pos c22] at H
             have c22b0 : decide (0 ≤ x44_3) = true := decide_eq_true c22
             clear c22
             replace H := Option.bind_eq_some_iff.mp H
             obtain ⟨⟨t604, t605⟩, A230, H⟩ := H
             try dsimp only at H
             have A23 := Aside0.mk A230
             clear A230
             by_cases c24 : 0 ≤ t604
             ·rw [if_pos c24] at H
              have c24b0 : decide (0 ≤ t604) = true := decide_eq_true c24
              clear c24
              by_cases c25 : t604 < (l2.length : Int)
              ·rw [if_pos c25] at H
               have c25b0 : decide (t604 < (l2.length : Int)) = true := decide_eq_true c25
               clear c25
               by_cases c26 : 0 < ((rd_L5 l2 t604).length : Int)
               ·rw [if_pos c26] at H
                have c26b0 : decide (0 < ((rd_L5 l2 t604).length : Int)) = true := decide_eq_true c26
                have c26b1 : decide (0 < (rd_L5 l2 t604).length) = true := decide_eq_true (by omega)
                clear c26
                by_cases c27 : 1 < ((rd_L5 l2 t604).length : Int)
                ·rw [if_pos c27] at H
                 have c27b0 : decide (1 < ((rd_L5 l2 t604).length : Int)) = true := decide_eq_true c27
                 have c27b1 : decide (1 < (rd_L5 l2 t604).length) = true := decide_eq_true (by omega)
                 clear c27
                 obtain ⟨y610, hy610⟩ : ∃ y_ : List Int, y_ = (([rd (rd_L5 l2 t604) 0, wrap64 ((rd (rd_L5 l2 t604) 1) + ((rd_T44 l1 x34_2).f2)), t604, x34_2] : List Int)) := ⟨_, rfl⟩
                 replace H : (if 0 ≤ (impl_NextClaims.sel x44_3 ((rd_T44 l1 x34_2).f0) ((rd_T44 l1 x34_2).f1)) then (if (impl_NextClaims.sel x44_3 ((rd_T44 l1 x34_2).f0) ((rd_T44 l1 x34_2).f1)) < (x7_3.length : Int) then ((slices_Compare_int_int.f k3 y610 (rd_L5 x7_3 (impl_NextClaims.sel x44_3 ((rd_T44 l1 x34_2).f0) ((rd_T44 l1 x34_2).f1)))).bind fun t614 => (if t614 < 0 then (impl_NextClaims.l1 k3 l2 (x7_3.set ((impl_NextClaims.sel x44_3 ((rd_T44 l1 x34_2).f0) ((rd_T44 l1 x34_2).f1)) : Int).toNat y610) x34_2 l1 (l1.length : Int) x34_2 (wrap64 (x44_3 + 1)) ((rd_T44 l1 x34_2).f0) ((rd_T44 l1 x34_2).f1) ((rd_T44 l1 x34_2).f2)) else (impl_NextClaims.l1 k3 l2 x7_3 x34_2 l1 (l1.length : Int) x34_2 (wrap64 (x44_3 + 1)) ((rd_T44 l1 x34_2).f0) ((rd_T44 l1 x34_2).f1) ((rd_T44 l1 x34_2).f2)))) else (none)) else (none)) = some r := by first | (rw [hy610]; with_reducible exact H) | (have H2_ := (Option.bind_some _ _).symm.trans H; rw [hy610]; with_reducible exact H2_) | (have H2_ := (Option.bind_some _ _).symm.trans H; with_reducible exact H2_) | with_reducible exact H | (rw [hy610]; exact H) | exact H
                 have Ny610 := Aside0.mk hy610
                 clear hy610
                 by_cases c28 : 0 ≤ (impl_NextClaims.sel x44_3 ((rd_T44 l1 x34_2).f0) ((rd_T44 l1 x34_2).f1))
                 ·rw [if_pos c28] at H
                  have c28b0 : decide (0 ≤ (impl_NextClaims.sel x44_3 ((rd_T44 l1 x34_2).f0) ((rd_T44 l1 x34_2).f1))) = true := decide_eq_true c28
                  clear c28
                  by_cases c29 : (impl_NextClaims.sel x44_3 ((rd_T44 l1 x34_2).f0) ((rd_T44 l1 x34_2).f1)) < (x7_3.length : Int)
                  ·rw [if_pos c29] at H
                   have c29b0 : decide ((impl_NextClaims.sel x44_3 ((rd_T44 l1 x34_2).f0) ((rd_T44 l1 x34_2).f1)) < (x7_3.length : Int)) = true := decide_eq_true c29
                   clear c29
                   replace H := Option.bind_eq_some_iff.mp H
                   obtain ⟨t614, A300, H⟩ := H
                   try dsimp only at H
                   have A30 := Aside0.mk A300
                   clear A300
                   by_cases c31 : t614 < 0
                   ·rw [if_pos c31] at H
                    have c31b0 : decide (t614 < 0) = true := decide_eq_true c31
                    clear c31
                    obtain ⟨y615, hy615⟩ : ∃ y_ : List (List Int), y_ = (x7_3.set ((impl_NextClaims.sel x44_3 ((rd_T44 l1 x34_2).f0) ((rd_T44 l1 x34_2).f1)) : Int).toNat y610) := ⟨_, rfl⟩
                    replace H : (impl_NextClaims.l1 k3 l2 y615 x34_2 l1 (l1.length : Int) x34_2 (wrap64 (x44_3 + 1)) ((rd_T44 l1 x34_2).f0) ((rd_T44 l1 x34_2).f1) ((rd_T44 l1 x34_2).f2)) = some r := by first | (rw [hy615]; with_reducible exact H) | (have H2_ := (Option.bind_some _ _).symm.trans H; rw [hy615]; with_reducible exact H2_) | (have H2_ := (Option.bind_some _ _).symm.trans H; with_reducible exact H2_) | with_reducible exact H | (rw [hy615]; exact H) | exact H
                    have Ny615 := Aside0.mk hy615
                    clear hy615
                    have H' := Aside0.mk H
                    clear H
                    have hcz33_0 : wr.cell? ⟨gb603, 0, none⟩ = some (.int .i64 ((rd_T44 l1 x34_2).f0)) := (blk_cell BK603.out 0).trans rfl
                    have hcz33_1 : wr.cell? ⟨gb603, 1, none⟩ = some (.int .i64 ((rd_T44 l1 x34_2).f1)) := (blk_cell BK603.out 1).trans rfl
                    have hcz33_2 : wr.cell? ⟨gb603, 2, none⟩ = some (.int .i64 ((rd_T44 l1 x34_2).f2)) := (blk_cell BK603.out 2).trans rfl
                    have hfz33_0 := blk_frozen BK603.out 0
                    have hfz33_1 := blk_frozen BK603.out 1
                    have hfz33_2 := blk_frozen BK603.out 2
                    try go_wp2_with (first | ((with_reducible refine gate_callee (f := 81) rfl ?_); refine goesL_ (some 50) rfl rfl Try.func81 (by kernel_rfl) rfl #[.agg #[.int .i64 ((rd_T44 l1 x34_2).f0), .int .i64 ((rd_T44 l1 x34_2).f1), .int .i64 ((rd_T44 l1 x34_2).f2)], .int .i64 (impl_NextClaims.sel x44_3 ((rd_T44 l1 x34_2).f0) ((rd_T44 l1 x34_2).f1))] rfl (by (try simp only [List.map_toArray, List.map_cons, List.map_nil]); first | done | rfl | (simp only [List.length_drop, List.length_take]; rfl)) ?_; (with_reducible refine (impl_Cable_other.calls ((rd_T44 l1 x34_2).f0) ((rd_T44 l1 x34_2).f1) ((rd_T44 l1 x34_2).f2) (impl_NextClaims.sel x44_3 ((rd_T44 l1 x34_2).f0) ((rd_T44 l1 x34_2).f1)) t604 t605 _ A23.out).mono ?_); rintro e w34 ⟨rfl, hb⟩; refine ⟨_, rfl, ?_⟩; have n0_ := Aside0.mk (Kd.S_below (by (with_reducible repeat (first | apply Kd.S_alloc | apply Kd.S_drewN | apply Kd.S_drew)); exact HO_7.out) hb); have n1_ := Aside0.mk (blk_below (g := gb603) (o := .cells #[.int .i64 ((rd_T44 l1 x34_2).f0), .int .i64 ((rd_T44 l1 x34_2).f1), .int .i64 ((rd_T44 l1 x34_2).f2)] 44 (0, 0)) (by (with_reducible repeat (first | refine blk_drewN ?_ _ | refine blk_drew ?_ | refine blk_alloc ?_ _)); exact BK603.out) hb); have n2_ := Aside0.mk (below_step (bw HB.out) hb); clear HO_7; clear BK603; clear HB; have HO_7 := n0_; have BK603 := n1_; have HB := n2_; clear n0_ n1_ n2_; (try clear hb); (try clear hb2); (try clear hk); (try clear hi)))
                    have n0_ := Aside0.mk (Kd.S_drew HO_7.out)
                    have n1_ := Aside0.mk (blk_drew BK603.out)
                    have n2_ := Aside0.mk (below_drew1 HB.out)
                    clear HO_7
                    clear BK603
                    clear HB
                    have HO_7 := n0_
                    have BK603 := n1_
                    have HB := n2_
                    clear n0_ n1_ n2_
                    have p606 : 0 ≤ (t604 : Int) := od
                    have q606 : t604 < (l2.length : Int) := od
                    obtain ⟨ad606, A606_0, c606_0, e606, hx606_0, hl606_0, hi606_0⟩ := at_L5 HR2.out t604 p606 q606
                    have hw606_0 := hx606_0
                    cases e606
                    (try replace hx606_0 := (HB.out.cell (World.block_lt_of_cell? w _ hx606_0)).trans hx606_0)
                    have HR606_0 := Aside0.mk hi606_0
                    have HC606_0 := Aside0.mk hl606_0
                    clear hi606_0 hl606_0
                    replace p606 := eq_true p606
                    replace q606 := eq_true q606
                    have p607 : 0 ≤ (0 : Int) := (by omega)
                    have q607 : 0 < ((rd_L5 l2 t604).length : Int) := od
                    obtain ⟨ad607, e607, hx607_0⟩ := Kd.at_int HR606_0.out 0 p607 q607
                    have hw607_0 := hx607_0
                    (try rw [show ((0 : Int)).toNat = 0 from rfl] at hw607_0)
                    (try rw [show 0 * 1 = 0 from rfl] at hw607_0)
                    (try rw [Addr.add_zero'] at hw607_0)
                    cases e607
                    have qi607 : (0 < (rd_L5 l2 t604).length) = True := eq_true (by omega)
                    (try rw [show ((0 : Int)).toNat = 0 from rfl] at hx607_0)
                    (try rw [Addr.add_zero'] at hx607_0)
                    (try replace hx607_0 := (HB.out.cell (World.block_lt_of_cell? w _ hx607_0)).trans hx607_0)
                    replace p607 := eq_true p607
                    replace q607 := eq_true q607
                    have p608 : 0 ≤ (t604 : Int) := od
                    have q608 : t604 < (l2.length : Int) := od
                    obtain ⟨ad608, A608_0, c608_0, e608, hx608_0, hl608_0, hi608_0⟩ := at_L5 HR2.out t604 p608 q608
                    have hw608_0 := hx608_0
                    obtain rfl : ad606 = ad608 := (by injection e608)
                    (try replace hx608_0 := (HB.out.cell (World.block_lt_of_cell? w _ hx608_0)).trans hx608_0)
                    have HR608_0 := Aside0.mk hi608_0
                    have HC608_0 := Aside0.mk hl608_0
                    clear hi608_0 hl608_0
                    replace p608 := eq_true p608
                    replace q608 := eq_true q608
                    have ea_ := Option.some.inj (hx606_0.symm.trans hx608_0)
                    injection ea_ with ea_ en_ ec_
                    subst ea_
                    subst ec_
                    clear en_
                    have p609 : 0 ≤ (1 : Int) := (by omega)
                    have q609 : 1 < ((rd_L5 l2 t604).length : Int) := od
                    obtain ⟨ad609, e609, hx609_0⟩ := Kd.at_int HR608_0.out 1 p609 q609
                    have hw609_0 := hx609_0
                    (try rw [show ((1 : Int)).toNat = 1 from rfl] at hw609_0)
                    (try rw [show 1 * 1 = 1 from rfl] at hw609_0)
                    (try simp only [Nat.reduceMul, Nat.reduceEqDiff, Go.Addr.add, ↓reduceIte] at hw609_0)
                    cases e609
                    (try simp only [show (1 : Int).toNat = 1 from rfl, Nat.reduceMul, Nat.reduceEqDiff, Go.Addr.add, ↓reduceIte] at hx609_0)
                    have qi609 : (1 < (rd_L5 l2 t604).length) = True := eq_true (by omega)
                    (try rw [show ((1 : Int)).toNat = 1 from rfl] at hx609_0)
                    (try replace hx609_0 := (HB.out.cell (World.block_lt_of_cell? w _ hx609_0)).trans hx609_0)
                    replace p609 := eq_true p609
                    replace q609 := eq_true q609
                    refine start_ (n := 19) (S := fun w' => w'.cell? ⟨gb603, 0, none⟩ = some (.int .i64 ((rd_T44 l1 x34_2).f0)) ∧ w'.cell? ⟨gb603, 1, none⟩ = some (.int .i64 ((rd_T44 l1 x34_2).f1)) ∧ w'.cell? ⟨gb603, 2, none⟩ = some (.int .i64 ((rd_T44 l1 x34_2).f2)) ∧ w'.cell? (ad606.add (t604).toNat) = some (.slice (some ad607) (rd_L5 l2 t604).length c606_0) ∧ w'.cell? ad607 = some (.int .i64 (rd (rd_L5 l2 t604) 0)) ∧ w'.cell? (ad606.add (t604).toNat) = some (.slice (some ad607) (rd_L5 l2 t604).length c606_0) ∧ w'.cell? ⟨ad607.block, ad607.off + 1, none⟩ = some (.int .i64 (rd (rd_L5 l2 t604) 1))) (ds := []) (bl 19 0) (by kernel_rfl) rfl (by kernel_rfl) ⟨(blk_cell BK603.out 0).trans rfl, (blk_cell BK603.out 1).trans rfl, (blk_cell BK603.out 2).trans rfl, ((HB.out.cell (World.block_lt_of_cell? w _ hw606_0)).trans hw606_0), ((HB.out.cell (World.block_lt_of_cell? w _ hw607_0)).trans hw607_0), ((HB.out.cell (World.block_lt_of_cell? w _ hw608_0)).trans hw608_0), ((HB.out.cell (World.block_lt_of_cell? w _ hw609_0)).trans hw609_0)⟩ (fun hHeld => ?_); refine with_tabW impl_NextClaims.tab11 impl_NextClaims.bits11 (fun HT_ HW_ => ?_)
                    generalize w34.drew = w35 at HO_7 BK603 HB HR606_0 HR608_0 hx606_0 hx607_0 hx608_0 hx609_0 hHeld ⊢
                    refine pA 0 (some 53) (bl 19 1) HT_ (h := ?_)
                    refine pA 1 (some 54) (bl 19 3) HT_ (h := ?_)
                    refine pA 2 (some 55) (bl 19 7) HT_ (h := ?_)
                    refine pA 6 (some 59) (bl 19 71) HT_ (h := ?_)
                    refine pA 7 (some 60) (bl 19 199) HT_ (h := ?_)
                    refine pA 8 (some 61) (bl 19 455) HT_ (h := ?_)
                    refine pA 12 (some 65) (bl 19 4551) HT_ (h := ?_)
                    refine pA 15 (some 68) (bl 19 37319) HT_ (h := ?_)
                    refine pA 16 (some 69) (bl 19 102855) HT_ (h := ?_)
                    refine tA 3 (some 56) (bl 19 102863) HT_ HW_ hHeld (h := ?_)
                    refine pA 4 (some 57) (bl 19 102879) HT_ (h := ?_)
                    refine tA 5 (some 58) (bl 19 102911) HT_ HW_ hHeld (h := ?_)
                    refine tA 9 (some 62) (bl 19 103423) HT_ HW_ hHeld (h := ?_)
                    refine pA 10 (some 63) (bl 19 104447) HT_ (h := ?_)
                    refine tA 11 (some 64) (bl 19 106495) HT_ HW_ hHeld (h := ?_)
                    refine tA 13 (some 66) (bl 19 114687) HT_ HW_ hHeld (h := ?_)
                    refine pA 14 (some 67) (bl 19 131071) HT_ (h := ?_)
                    refine one_ (i := 17) (N := some 70) (bl 19 262143) rfl rfl (one_of HT_.out (by kernel_rfl)) (by decide) (fun K hK => ?_)
                    refine Kd.R_lit_step (Kd.int .i64) _ 3 ?hg (N := 70) ?hd (xs := ([rd (rd_L5 l2 t604) 0, wrap64 ((rd (rd_L5 l2 t604) 1) + ((rd_T44 l1 x34_2).f2)), t604, x34_2] : List Int)) (inner := [.int .i64 (rd (rd_L5 l2 t604) 0), .int .i64 (wrap64 ((rd (rd_L5 l2 t604) 1) + ((rd_T44 l1 x34_2).f2))), .int .i64 t604, .int .i64 x34_2]) (ok := fun _ => True) (okp := fun _ => True) ?hr ?hp (fun _ hk => hk) trivial (Below.refl _ _) (Nat.le_refl _) (by simp) ?_; (case hd => rfl); (case hg => rfl); (case hr => first | (go_simp; done) | (go_simp; rfl)); (case hp => exact (Reps.one (show Kd.M (Kd.int .i64) _ _ _ (rd (rd_L5 l2 t604) 0) [.int .i64 (rd (rd_L5 l2 t604) 0)] from rfl) (Reps.one (show Kd.M (Kd.int .i64) _ _ _ (wrap64 ((rd (rd_L5 l2 t604) 1) + ((rd_T44 l1 x34_2).f2))) [.int .i64 (wrap64 ((rd (rd_L5 l2 t604) 1) + ((rd_T44 l1 x34_2).f2)))] from rfl) (Reps.one (show Kd.M (Kd.int .i64) _ _ _ t604 [.int .i64 t604] from rfl) (Reps.one (show Kd.M (Kd.int .i64) _ _ _ x34_2 [.int .i64 x34_2] from rfl) (Reps.none _ _))))))
                    intro v611 w36 ho37 hb hg_ hnew_
                    clear hg_ hnew_
                    (first | rw [← Ny610.out] at ho37 | (simp only [Int.reduceToNat] at ho37; rw [← Ny610.out] at ho37))
                    have n0_ := Aside0.mk (Kd.S_elder' (by (with_reducible repeat (first | apply Kd.S_alloc | apply Kd.S_drewN | apply Kd.S_drew)); exact HO_7.out) (Kd.R_base ho37) hb)
                    have n1_ := Aside0.mk (Kd.R_lower ho37 (below_size (bw HB.out)))
                    have n2_ := Aside0.mk (blk_below (g := gb603) (o := .cells #[.int .i64 ((rd_T44 l1 x34_2).f0), .int .i64 ((rd_T44 l1 x34_2).f1), .int .i64 ((rd_T44 l1 x34_2).f2)] 44 (0, 0)) (by (with_reducible repeat (first | refine blk_drewN ?_ _ | refine blk_drew ?_ | refine blk_alloc ?_ _)); exact BK603.out) hb)
                    have n3_ := Aside0.mk (below_step (bw HB.out) hb)
                    clear HO_7
                    clear BK603
                    clear HB
                    have HO_7 := n0_
                    have HO612 := n1_
                    have BK603 := n2_
                    have HB := n3_
                    clear n0_ n1_ n2_ n3_
                    clear hb ho37
                    refine hK.out _ _ ⟨(blk_cell BK603.out 0).trans rfl, (blk_cell BK603.out 1).trans rfl, (blk_cell BK603.out 2).trans rfl, ((HB.out.cell (World.block_lt_of_cell? w _ hw606_0)).trans hw606_0), ((HB.out.cell (World.block_lt_of_cell? w _ hw607_0)).trans hw607_0), ((HB.out.cell (World.block_lt_of_cell? w _ hw608_0)).trans hw608_0), ((HB.out.cell (World.block_lt_of_cell? w _ hw609_0)).trans hw609_0)⟩ (fun hHeld => ?_)
                    clear hK K
                    refine norm_ (a' := ?_) ?_ ?_
                    rotate_left
                    ·show Act.put _ (some 70) _ = _
                     simp only [Act.put, List.setIfInBounds_toArray, List.set_cons_zero, List.set_cons_succ, i64_w, i32_w]
                     rfl
                    refine pA 18 (some 14) (bl 19 524287) HT_ (h := ?_)
                    refine done_ (done_of HT_.out (by kernel_rfl)) ?_
                    obtain ⟨Ao38, co38, eo38⟩ := Kd.S_slice HO_7.out
                    subst eo38
                    have p613 : 0 ≤ ((impl_NextClaims.sel x44_3 ((rd_T44 l1 x34_2).f0) ((rd_T44 l1 x34_2).f1)) : Int) := od
                    have q613 : (impl_NextClaims.sel x44_3 ((rd_T44 l1 x34_2).f0) ((rd_T44 l1 x34_2).f1)) < (x7_3.length : Int) := od
                    obtain ⟨ad613, A613_0, c613_0, e613, hx613_0, hl613_0, hi613_0⟩ := at_L5 (Kd.S_reads' HO_7.out).2.2 (impl_NextClaims.sel x44_3 ((rd_T44 l1 x34_2).f0) ((rd_T44 l1 x34_2).f1)) p613 q613
                    cases e613
                    obtain ⟨ce613, hce613, hMe613, hcc613⟩ := Kd.S_get HO_7.out [] (impl_NextClaims.sel x44_3 ((rd_T44 l1 x34_2).f0) ((rd_T44 l1 x34_2).f1)) p613 (by first | exact q613 | exact od | (have e_ := (Kd.S_reads' HO_7.out).1; omega))
                    obtain ⟨ve613_0, rfl, ge613_0⟩ := hMe613
                    have hv613_0 := hcc613 0 _ rfl
                    rw [Nat.add_zero, show ((Kd.slice 3 (Kd.int .i64))).sz = 1 from rfl, Nat.mul_one] at hv613_0
                    replace hv613_0 := Option.some.inj (hv613_0.symm.trans hx613_0)
                    rw [hv613_0] at ge613_0
                    have HL613_0 := Aside0.mk (show Kd.R (Kd.int .i64) 3 _ _ _ _ (rd_L5 x7_3 (impl_NextClaims.sel x44_3 ((rd_T44 l1 x34_2).f0) ((rd_T44 l1 x34_2).f1))) from ge613_0)
                    clear hv613_0 ge613_0
                    clear hcc613 hce613
                    have HR613_0 := Aside0.mk hi613_0
                    have HC613_0 := Aside0.mk hl613_0
                    clear hi613_0 hl613_0
                    replace p613 := eq_true p613
                    replace q613 := eq_true q613
                    obtain ⟨Ao39, co39, eo39⟩ := Kd.R_slice HO612.out
                    subst eo39
                    try go_wp2_with (first | ((with_reducible refine gate_callee (f := 82) rfl ?_); refine goesL_ (some 76) rfl rfl Try.func82 (by kernel_rfl) rfl #[.slice Ao39 y610.length co39, .slice A613_0 (rd_L5 x7_3 (impl_NextClaims.sel x44_3 ((rd_T44 l1 x34_2).f0) ((rd_T44 l1 x34_2).f1))).length c613_0] rfl (by (try simp only [List.map_toArray, List.map_cons, List.map_nil]); first | done | rfl | (simp only [List.length_drop, List.length_take]; rfl)) ?_; (with_reducible refine (slices_Compare_int_int.calls k3 _ _ y610 _ _ (rd_L5 x7_3 (impl_NextClaims.sel x44_3 ((rd_T44 l1 x34_2).f0) ((rd_T44 l1 x34_2).f1))) t614 _ ?side1 ?side2 ?side3 ?side4 A30.out).mono ?_); (case side1 => repeat (first | exact (Kd.R_reads' HO612.out).2.2 | (with_reducible refine Kd.C_alloc ?_ _) | (with_reducible refine Kd.C_drewN ?_ _) | (with_reducible refine Kd.C_drew ?_))); (case side2 => exact (Kd.R_reads' HO612.out).2.1); (case side3 => repeat (first | exact (by repeat (first | (with_reducible exact HR613_0.out) | (with_reducible refine Kd.C_alloc ?_ _) | (with_reducible refine Kd.C_drewN ?_ _) | (with_reducible refine Kd.C_drew ?_) | exact HR613_0.out)) | (with_reducible refine Kd.C_alloc ?_ _) | (with_reducible refine Kd.C_drewN ?_ _) | (with_reducible refine Kd.C_drew ?_))); (case side4 => exact HC613_0.out); rintro e w' ⟨rfl, ⟨nd, rfl⟩⟩; refine ⟨_, rfl, ?_⟩; (try (rw [drewN_self w36]; generalize hq_ : World.drewN w36 _ = w36; have n0_ : Aside0 (Kd.R (Kd.int .i64) 3 w36 w.heap.size (fun k_ => some k_ ≠ (.slice Ao39 y610.length co39 : Value).ownBlock ∧ some k_ ≠ (.slice (some ad613) x7_3.length co38 : Value).ownBlock) (.slice A613_0 (rd_L5 x7_3 (impl_NextClaims.sel x44_3 ((rd_T44 l1 x34_2).f0) ((rd_T44 l1 x34_2).f1))).length c613_0) (rd_L5 x7_3 (impl_NextClaims.sel x44_3 ((rd_T44 l1 x34_2).f0) ((rd_T44 l1 x34_2).f1)))) := ⟨by rw [← hq_]; exact (by (with_reducible repeat (first | apply Kd.R_alloc | apply Kd.R_drewN | apply Kd.R_drew)); exact Kd.R_mono HL613_0.out (fun _ hk => by first | exact ⟨hk.1.2, hk.2⟩ | exact hk))⟩; have n1_ : Aside0 (Kd.R (Kd.int .i64) 3 w36 w.heap.size (fun _ => True) (.slice Ao39 y610.length co39) y610) := ⟨by rw [← hq_]; exact (ru HO612.out)⟩; have n2_ : Aside0 (Kd.S (Kd.slice 3 (Kd.int .i64)) 24 w36 w.heap.size (fun k_ => some k_ ≠ (.slice Ao39 y610.length co39 : Value).ownBlock) (.slice (some ad613) x7_3.length co38) x7_3) := ⟨by rw [← hq_]; exact (by (with_reducible repeat (first | apply Kd.S_alloc | apply Kd.S_drewN | apply Kd.S_drew)); exact Kd.S_mono HO_7.out (fun _ hk => hk.2))⟩; have n3_ : Aside0 (w36.heap[gb603]? = some (.cells #[.int .i64 ((rd_T44 l1 x34_2).f0), .int .i64 ((rd_T44 l1 x34_2).f1), .int .i64 ((rd_T44 l1 x34_2).f2)] 44 (0, 0))) := ⟨by rw [← hq_]; exact (by (with_reducible repeat (first | refine blk_drewN ?_ _ | refine blk_drew ?_ | refine blk_alloc ?_ _)); exact BK603.out)⟩; have n4_ : Aside0 (Below w.heap.size w w36) := ⟨by rw [← hq_]; exact (bw HB.out)⟩; have n5_ : Aside0 (Kd.C (Kd.int .i64) w36 A613_0 (rd_L5 x7_3 (impl_NextClaims.sel x44_3 ((rd_T44 l1 x34_2).f0) ((rd_T44 l1 x34_2).f1))).length (rd_L5 x7_3 (impl_NextClaims.sel x44_3 ((rd_T44 l1 x34_2).f0) ((rd_T44 l1 x34_2).f1)))) := ⟨by rw [← hq_]; exact (by repeat (first | (with_reducible exact HR613_0.out) | (with_reducible refine Kd.C_alloc ?_ _) | (with_reducible refine Kd.C_drewN ?_ _) | (with_reducible refine Kd.C_drew ?_) | exact HR613_0.out))⟩; clear HL613_0 HO612 HO_7 BK603 HB HR613_0 hq_; have HL613_0 := n0_; have HO612 := n1_; have HO_7 := n2_; have BK603 := n3_; have HB := n4_; have HR613_0 := n5_; clear n0_ n1_ n2_ n3_ n4_ n5_)); have p32 : 0 ≤ ((impl_NextClaims.sel x44_3 ((rd_T44 l1 x34_2).f0) ((rd_T44 l1 x34_2).f1)) : Int) := od; have q32 : ((impl_NextClaims.sel x44_3 ((rd_T44 l1 x34_2).f0) ((rd_T44 l1 x34_2).f1)) : Int) < ((x7_3.length : Int) : Int) := od; obtain ⟨go32, co32, eo32, gb32, gl32, cl32, HG32⟩ := Kd.S_form HO_7.out (by omega); (first | cases eo32 | (injection eo32 with ea_ en_ ec_; (first | subst ea_ | (injection ea_ with ea_; subst ea_)); subst ec_; clear en_)); have GB32 := Aside0.mk gb32; have GG32 := Aside0.mk HG32; clear gb32 gl32 HG32; (first | simp only [add_plain] at hx613_0 | skip); obtain ⟨_, ce32, hcl32, hM32, hcc32, hfr32, _, _⟩ := Kd.S_elem HO_7.out [] ((impl_NextClaims.sel x44_3 ((rd_T44 l1 x34_2).f0) ((rd_T44 l1 x34_2).f1)) : Int) p32 q32; obtain ⟨ve32_0, rfl, ge32_0⟩ := hM32; have hx32_0 := hcc32 0 _ rfl; have hf32_0 := hfr32 0; (try simp only [show ((Kd.slice 3 (Kd.int .i64))).sz = 1 from rfl, Nat.mul_one, Nat.add_zero] at hx32_0); (try simp only [show ((Kd.slice 3 (Kd.int .i64))).sz = 1 from rfl, Nat.mul_one, Nat.add_zero] at hf32_0); (try clear hM32); clear hcl32 hcc32 hfr32; replace p32 := eq_true p32; replace q32 := eq_true q32; have n_ := Aside0.mk (Kd.S_mono (ok' := (fun k_ => some k_ ≠ (.slice Ao39 y610.length co39 : Value).ownBlock)) HO_7.out (fun k_ hk => by first | exact hk.2 | exact hk)); clear HO_7; have HO_7 := n_; clear n_; have HX40 := Aside0.mk (show Kd.S (Kd.slice 3 (Kd.int .i64)) 24 w36 w.heap.size (fun k_ => ((fun _ => True)) k_ ∧ ¬ ((fun k_ => some k_ = (.slice Ao39 y610.length co39 : Value).ownBlock)) k_) (.slice (some ⟨go32, 0, none⟩) x7_3.length co38) x7_3 from (by (with_reducible repeat (first | apply Kd.S_alloc | apply Kd.S_drewN | apply Kd.S_drew)); exact Kd.S_mono HO_7.out (fun k_ hk => ⟨trivial, fun e_ => hk e_⟩))); obtain ⟨oki40, ce40, hcl40, hM40, hcc40, hfr40, hoki40, hH40⟩ := Kd.S_elem HX40.out [] ((impl_NextClaims.sel x44_3 ((rd_T44 l1 x34_2).f0) ((rd_T44 l1 x34_2).f1)) : Int) od (by have h_ : ((impl_NextClaims.sel x44_3 ((rd_T44 l1 x34_2).f0) ((rd_T44 l1 x34_2).f1)) : Int) < ((x7_3.length : Int) : Int) := od; first | exact h_ | (have e_ := (Kd.S_reads' HO_7.out).1; omega) | simpa using h_); obtain ⟨ve40_0, rfl, ge40_0⟩ := hM40; have HP40 := Kd.S_seg hH40 od (by have h_ : ((impl_NextClaims.sel x44_3 ((rd_T44 l1 x34_2).f0) ((rd_T44 l1 x34_2).f1)) : Int) < ((x7_3.length : Int) : Int) := od; first | exact h_ | (have e_ := (Kd.S_reads' HO_7.out).1; omega) | simpa using h_) (seg := [.slice Ao39 y610.length co39]) (j := 0) (show 1 ≤ 1 from by decide) (x' := y610) (Kd.M_row (Kd.R_mono (Kd.R_tight rfl (Kd.R_mono (ok' := fun k_ => ((fun _ => True)) k_ ∧ k_ ≠ go32) (Kd.R_apart' (HO612.out) (Kd.S_typed HO_7.out) (by decide)) (fun k_ hk => ⟨trivial, fun e_ => (hk.2) (by rw [e_]; rfl)⟩))) (fun _ h_ => Or.inr (h_)))) (fun _ hk => hk) (fun k_ hk_ => ((Kd.R_mono (ok' := fun k_ => ((fun _ => True)) k_ ∧ k_ ≠ go32) (Kd.R_apart' (HO612.out) (Kd.S_typed HO_7.out) (by decide)) (fun k_ hk => ⟨trivial, fun e_ => (hk.2) (by rw [e_]; rfl)⟩))).1 k_ hk_.symm); have hx40_0 := hcc40 0 _ rfl; (try simp only [show ((Kd.slice 3 (Kd.int .i64))).sz = 1 from rfl, Nat.mul_one, Nat.add_zero] at hx40_0); have hf40_0 := hfr40 0; (try simp only [show ((Kd.slice 3 (Kd.int .i64))).sz = 1 from rfl, Nat.mul_one, Nat.add_zero] at hf40_0); (try clear hM40); clear hcl40 hcc40 hfr40 hoki40 hH40; (try simp only [show ((Kd.slice 3 (Kd.int .i64))).sz = 1 from rfl, Nat.mul_one, Nat.add_zero] at HP40)) | ((with_reducible refine gate_store (t := 24) (p := 81) rfl ?_); refine store_event (t := 24) (p := 81) (v := ?vo_w41) (w1 := (w36.setCell ⟨go32, ((impl_NextClaims.sel x44_3 ((rd_T44 l1 x34_2).f0) ((rd_T44 l1 x34_2).f1)) : Int).toNat, none⟩ (.slice Ao39 y610.length co39))) ?hg ?ho ?hn ?hr ?_; (case ho => rfl); (case hg => rfl); (case hn => rfl); (case hr => first | (go_simp; done) | (go_simp; rfl)); intro w41 hw; have hg : w36.grownBy w41 (some go32) := (by rw [hw]; exact HP40.2); have hp_ : Kd.S (Kd.slice 3 (Kd.int .i64)) 24 w41 w.heap.size (fun _ => True) (.slice (some ⟨go32, 0, none⟩) x7_3.length co38) y615 := (by rw [hw, Ny615.out]; exact HP40.1); clear HP40; have n0_ := Aside0.mk (hp_); have n1_ := Aside0.mk (blk_grown (g := gb603) (o := .cells #[.int .i64 ((rd_T44 l1 x34_2).f0), .int .i64 ((rd_T44 l1 x34_2).f1), .int .i64 ((rd_T44 l1 x34_2).f2)] 44 (0, 0)) (by (with_reducible repeat (first | refine blk_drewN ?_ _ | refine blk_drew ?_ | refine blk_alloc ?_ _)); exact BK603.out) hg (Kd.S_ne HO_7.out BK603.out (by decide))); have n2_ := Aside0.mk (Kd.R_after (v := (.slice (some ⟨go32, 0, none⟩) x7_3.length co38)) (v1 := (.slice (some ⟨go32, 0, none⟩) x7_3.length co38)) (ok := (fun k_ => some k_ ≠ (.slice Ao39 y610.length co39 : Value).ownBlock)) (by (with_reducible repeat (first | apply Kd.R_alloc | apply Kd.R_drewN | apply Kd.R_drew)); exact Kd.R_mono HL613_0.out (fun _ hk => by first | exact ⟨hk.1.2, hk.2⟩ | exact hk)) hg (.inl rfl)); have n3_ := Aside0.mk ((by rw [hw]; exact below_set (HB.out) GB32.out : Below w.heap.size w w41)); clear HO_7; clear BK603; clear HL613_0; clear HB; clear HO612; have HO_7 := n0_; have BK603 := n1_; have HL613_0 := n2_; have HB := n3_; clear n0_ n1_ n2_ n3_; clear hg hw hp_))
                    go_roundg k3
                    case measure => have := HJ3.out; have := HK2.out; have := HK3.out; omega
                    case rel => exact ⟨(y615), (wrap64 (x44_3 + 1)), fs, H', ⟨by have := HJ3.out; have := HK2.out; have := HK3.out; omega⟩, ⟨by (with_reducible repeat (first | apply Kd.S_alloc | apply Kd.S_drewN | apply Kd.S_drew)); exact HO_7.out⟩, ⟨by (with_reducible repeat (first | refine blk_drewN ?_ _ | refine blk_drew ?_ | refine blk_alloc ?_ _)); exact BK603.out⟩, ⟨bw HB.out⟩⟩
                   ·rw [if_neg c31] at H
                    have c31b0 : decide (t614 < 0) = false := decide_eq_false c31
                    clear c31
                    have H' := Aside0.mk H
                    clear H
                    have hcz42_0 : wr.cell? ⟨gb603, 0, none⟩ = some (.int .i64 ((rd_T44 l1 x34_2).f0)) := (blk_cell BK603.out 0).trans rfl
                    have hcz42_1 : wr.cell? ⟨gb603, 1, none⟩ = some (.int .i64 ((rd_T44 l1 x34_2).f1)) := (blk_cell BK603.out 1).trans rfl
                    have hcz42_2 : wr.cell? ⟨gb603, 2, none⟩ = some (.int .i64 ((rd_T44 l1 x34_2).f2)) := (blk_cell BK603.out 2).trans rfl
                    have hfz42_0 := blk_frozen BK603.out 0
                    have hfz42_1 := blk_frozen BK603.out 1
                    have hfz42_2 := blk_frozen BK603.out 2
                    try go_wp2_with (first | ((with_reducible refine gate_callee (f := 81) rfl ?_); refine goesL_ (some 50) rfl rfl Try.func81 (by kernel_rfl) rfl #[.agg #[.int .i64 ((rd_T44 l1 x34_2).f0), .int .i64 ((rd_T44 l1 x34_2).f1), .int .i64 ((rd_T44 l1 x34_2).f2)], .int .i64 (impl_NextClaims.sel x44_3 ((rd_T44 l1 x34_2).f0) ((rd_T44 l1 x34_2).f1))] rfl (by (try simp only [List.map_toArray, List.map_cons, List.map_nil]); first | done | rfl | (simp only [List.length_drop, List.length_take]; rfl)) ?_; (with_reducible refine (impl_Cable_other.calls ((rd_T44 l1 x34_2).f0) ((rd_T44 l1 x34_2).f1) ((rd_T44 l1 x34_2).f2) (impl_NextClaims.sel x44_3 ((rd_T44 l1 x34_2).f0) ((rd_T44 l1 x34_2).f1)) t604 t605 _ A23.out).mono ?_); rintro e w43 ⟨rfl, hb⟩; refine ⟨_, rfl, ?_⟩; have n0_ := Aside0.mk (Kd.S_below (by (with_reducible repeat (first | apply Kd.S_alloc | apply Kd.S_drewN | apply Kd.S_drew)); exact HO_7.out) hb); have n1_ := Aside0.mk (blk_below (g := gb603) (o := .cells #[.int .i64 ((rd_T44 l1 x34_2).f0), .int .i64 ((rd_T44 l1 x34_2).f1), .int .i64 ((rd_T44 l1 x34_2).f2)] 44 (0, 0)) (by (with_reducible repeat (first | refine blk_drewN ?_ _ | refine blk_drew ?_ | refine blk_alloc ?_ _)); exact BK603.out) hb); have n2_ := Aside0.mk (below_step (bw HB.out) hb); clear HO_7; clear BK603; clear HB; have HO_7 := n0_; have BK603 := n1_; have HB := n2_; clear n0_ n1_ n2_; (try clear hb); (try clear hb2); (try clear hk); (try clear hi)))
                    have n0_ := Aside0.mk (Kd.S_drew HO_7.out)
                    have n1_ := Aside0.mk (blk_drew BK603.out)
                    have n2_ := Aside0.mk (below_drew1 HB.out)
                    clear HO_7
                    clear BK603
                    clear HB
                    have HO_7 := n0_
                    have BK603 := n1_
                    have HB := n2_
                    clear n0_ n1_ n2_
                    have p606 : 0 ≤ (t604 : Int) := od
                    have q606 : t604 < (l2.length : Int) := od
                    obtain ⟨ad606, A606_0, c606_0, e606, hx606_0, hl606_0, hi606_0⟩ := at_L5 HR2.out t604 p606 q606
                    have hw606_0 := hx606_0
                    cases e606
                    (try replace hx606_0 := (HB.out.cell (World.block_lt_of_cell? w _ hx606_0)).trans hx606_0)
                    have HR606_0 := Aside0.mk hi606_0
                    have HC606_0 := Aside0.mk hl606_0
                    clear hi606_0 hl606_0
                    replace p606 := eq_true p606
                    replace q606 := eq_true q606
                    have p607 : 0 ≤ (0 : Int) := (by omega)
                    have q607 : 0 < ((rd_L5 l2 t604).length : Int) := od
                    obtain ⟨ad607, e607, hx607_0⟩ := Kd.at_int HR606_0.out 0 p607 q607
                    have hw607_0 := hx607_0
                    (try rw [show ((0 : Int)).toNat = 0 from rfl] at hw607_0)
                    (try rw [show 0 * 1 = 0 from rfl] at hw607_0)
                    (try rw [Addr.add_zero'] at hw607_0)
                    cases e607
                    have qi607 : (0 < (rd_L5 l2 t604).length) = True := eq_true (by omega)
                    (try rw [show ((0 : Int)).toNat = 0 from rfl] at hx607_0)
                    (try rw [Addr.add_zero'] at hx607_0)
                    (try replace hx607_0 := (HB.out.cell (World.block_lt_of_cell? w _ hx607_0)).trans hx607_0)
                    replace p607 := eq_true p607
                    replace q607 := eq_true q607
                    have p608 : 0 ≤ (t604 : Int) := od
                    have q608 : t604 < (l2.length : Int) := od
                    obtain ⟨ad608, A608_0, c608_0, e608, hx608_0, hl608_0, hi608_0⟩ := at_L5 HR2.out t604 p608 q608
                    have hw608_0 := hx608_0
                    obtain rfl : ad606 = ad608 := (by injection e608)
                    (try replace hx608_0 := (HB.out.cell (World.block_lt_of_cell? w _ hx608_0)).trans hx608_0)
                    have HR608_0 := Aside0.mk hi608_0
                    have HC608_0 := Aside0.mk hl608_0
                    clear hi608_0 hl608_0
                    replace p608 := eq_true p608
                    replace q608 := eq_true q608
                    have ea_ := Option.some.inj (hx606_0.symm.trans hx608_0)
                    injection ea_ with ea_ en_ ec_
                    subst ea_
                    subst ec_
                    clear en_
                    have p609 : 0 ≤ (1 : Int) := (by omega)
                    have q609 : 1 < ((rd_L5 l2 t604).length : Int) := od
                    obtain ⟨ad609, e609, hx609_0⟩ := Kd.at_int HR608_0.out 1 p609 q609
                    have hw609_0 := hx609_0
                    (try rw [show ((1 : Int)).toNat = 1 from rfl] at hw609_0)
                    (try rw [show 1 * 1 = 1 from rfl] at hw609_0)
                    (try simp only [Nat.reduceMul, Nat.reduceEqDiff, Go.Addr.add, ↓reduceIte] at hw609_0)
                    cases e609
                    (try simp only [show (1 : Int).toNat = 1 from rfl, Nat.reduceMul, Nat.reduceEqDiff, Go.Addr.add, ↓reduceIte] at hx609_0)
                    have qi609 : (1 < (rd_L5 l2 t604).length) = True := eq_true (by omega)
                    (try rw [show ((1 : Int)).toNat = 1 from rfl] at hx609_0)
                    (try replace hx609_0 := (HB.out.cell (World.block_lt_of_cell? w _ hx609_0)).trans hx609_0)
                    replace p609 := eq_true p609
                    replace q609 := eq_true q609
                    refine start_ (n := 19) (S := fun w' => w'.cell? ⟨gb603, 0, none⟩ = some (.int .i64 ((rd_T44 l1 x34_2).f0)) ∧ w'.cell? ⟨gb603, 1, none⟩ = some (.int .i64 ((rd_T44 l1 x34_2).f1)) ∧ w'.cell? ⟨gb603, 2, none⟩ = some (.int .i64 ((rd_T44 l1 x34_2).f2)) ∧ w'.cell? (ad606.add (t604).toNat) = some (.slice (some ad607) (rd_L5 l2 t604).length c606_0) ∧ w'.cell? ad607 = some (.int .i64 (rd (rd_L5 l2 t604) 0)) ∧ w'.cell? (ad606.add (t604).toNat) = some (.slice (some ad607) (rd_L5 l2 t604).length c606_0) ∧ w'.cell? ⟨ad607.block, ad607.off + 1, none⟩ = some (.int .i64 (rd (rd_L5 l2 t604) 1))) (ds := []) (bl 19 0) (by kernel_rfl) rfl (by kernel_rfl) ⟨(blk_cell BK603.out 0).trans rfl, (blk_cell BK603.out 1).trans rfl, (blk_cell BK603.out 2).trans rfl, ((HB.out.cell (World.block_lt_of_cell? w _ hw606_0)).trans hw606_0), ((HB.out.cell (World.block_lt_of_cell? w _ hw607_0)).trans hw607_0), ((HB.out.cell (World.block_lt_of_cell? w _ hw608_0)).trans hw608_0), ((HB.out.cell (World.block_lt_of_cell? w _ hw609_0)).trans hw609_0)⟩ (fun hHeld => ?_); refine with_tabW impl_NextClaims.tab11 impl_NextClaims.bits11 (fun HT_ HW_ => ?_)
                    generalize w43.drew = w44 at HO_7 BK603 HB HR606_0 HR608_0 hx606_0 hx607_0 hx608_0 hx609_0 hHeld ⊢
                    refine pA 0 (some 53) (bl 19 1) HT_ (h := ?_)
                    refine pA 1 (some 54) (bl 19 3) HT_ (h := ?_)
                    refine pA 2 (some 55) (bl 19 7) HT_ (h := ?_)
                    refine pA 6 (some 59) (bl 19 71) HT_ (h := ?_)
                    refine pA 7 (some 60) (bl 19 199) HT_ (h := ?_)
                    refine pA 8 (some 61) (bl 19 455) HT_ (h := ?_)
                    refine pA 12 (some 65) (bl 19 4551) HT_ (h := ?_)
                    refine pA 15 (some 68) (bl 19 37319) HT_ (h := ?_)
                    refine pA 16 (some 69) (bl 19 102855) HT_ (h := ?_)
                    refine tA 3 (some 56) (bl 19 102863) HT_ HW_ hHeld (h := ?_)
                    refine pA 4 (some 57) (bl 19 102879) HT_ (h := ?_)
                    refine tA 5 (some 58) (bl 19 102911) HT_ HW_ hHeld (h := ?_)
                    refine tA 9 (some 62) (bl 19 103423) HT_ HW_ hHeld (h := ?_)
                    refine pA 10 (some 63) (bl 19 104447) HT_ (h := ?_)
                    refine tA 11 (some 64) (bl 19 106495) HT_ HW_ hHeld (h := ?_)
                    refine tA 13 (some 66) (bl 19 114687) HT_ HW_ hHeld (h := ?_)
                    refine pA 14 (some 67) (bl 19 131071) HT_ (h := ?_)
                    refine one_ (i := 17) (N := some 70) (bl 19 262143) rfl rfl (one_of HT_.out (by kernel_rfl)) (by decide) (fun K hK => ?_)
                    refine Kd.R_lit_step (Kd.int .i64) _ 3 ?hg (N := 70) ?hd (xs := ([rd (rd_L5 l2 t604) 0, wrap64 ((rd (rd_L5 l2 t604) 1) + ((rd_T44 l1 x34_2).f2)), t604, x34_2] : List Int)) (inner := [.int .i64 (rd (rd_L5 l2 t604) 0), .int .i64 (wrap64 ((rd (rd_L5 l2 t604) 1) + ((rd_T44 l1 x34_2).f2))), .int .i64 t604, .int .i64 x34_2]) (ok := fun _ => True) (okp := fun _ => True) ?hr ?hp (fun _ hk => hk) trivial (Below.refl _ _) (Nat.le_refl _) (by simp) ?_; (case hd => rfl); (case hg => rfl); (case hr => first | (go_simp; done) | (go_simp; rfl)); (case hp => exact (Reps.one (show Kd.M (Kd.int .i64) _ _ _ (rd (rd_L5 l2 t604) 0) [.int .i64 (rd (rd_L5 l2 t604) 0)] from rfl) (Reps.one (show Kd.M (Kd.int .i64) _ _ _ (wrap64 ((rd (rd_L5 l2 t604) 1) + ((rd_T44 l1 x34_2).f2))) [.int .i64 (wrap64 ((rd (rd_L5 l2 t604) 1) + ((rd_T44 l1 x34_2).f2)))] from rfl) (Reps.one (show Kd.M (Kd.int .i64) _ _ _ t604 [.int .i64 t604] from rfl) (Reps.one (show Kd.M (Kd.int .i64) _ _ _ x34_2 [.int .i64 x34_2] from rfl) (Reps.none _ _))))))
                    intro v611 w45 ho46 hb hg_ hnew_
                    clear hg_ hnew_
                    (first | rw [← Ny610.out] at ho46 | (simp only [Int.reduceToNat] at ho46; rw [← Ny610.out] at ho46))
                    have n0_ := Aside0.mk (Kd.S_elder' (by (with_reducible repeat (first | apply Kd.S_alloc | apply Kd.S_drewN | apply Kd.S_drew)); exact HO_7.out) (Kd.R_base ho46) hb)
                    have n1_ := Aside0.mk (Kd.R_lower ho46 (below_size (bw HB.out)))
                    have n2_ := Aside0.mk (blk_below (g := gb603) (o := .cells #[.int .i64 ((rd_T44 l1 x34_2).f0), .int .i64 ((rd_T44 l1 x34_2).f1), .int .i64 ((rd_T44 l1 x34_2).f2)] 44 (0, 0)) (by (with_reducible repeat (first | refine blk_drewN ?_ _ | refine blk_drew ?_ | refine blk_alloc ?_ _)); exact BK603.out) hb)
                    have n3_ := Aside0.mk (below_step (bw HB.out) hb)
                    clear HO_7
                    clear BK603
                    clear HB
                    have HO_7 := n0_
                    have HO612 := n1_
                    have BK603 := n2_
                    have HB := n3_
                    clear n0_ n1_ n2_ n3_
                    clear hb ho46
                    refine hK.out _ _ ⟨(blk_cell BK603.out 0).trans rfl, (blk_cell BK603.out 1).trans rfl, (blk_cell BK603.out 2).trans rfl, ((HB.out.cell (World.block_lt_of_cell? w _ hw606_0)).trans hw606_0), ((HB.out.cell (World.block_lt_of_cell? w _ hw607_0)).trans hw607_0), ((HB.out.cell (World.block_lt_of_cell? w _ hw608_0)).trans hw608_0), ((HB.out.cell (World.block_lt_of_cell? w _ hw609_0)).trans hw609_0)⟩ (fun hHeld => ?_)
                    clear hK K
                    refine norm_ (a' := ?_) ?_ ?_
                    rotate_left
                    ·show Act.put _ (some 70) _ = _
                     simp only [Act.put, List.setIfInBounds_toArray, List.set_cons_zero, List.set_cons_succ, i64_w, i32_w]
                     rfl
                    refine pA 18 (some 14) (bl 19 524287) HT_ (h := ?_)
                    refine done_ (done_of HT_.out (by kernel_rfl)) ?_
                    obtain ⟨Ao47, co47, eo47⟩ := Kd.S_slice HO_7.out
                    subst eo47
                    have p613 : 0 ≤ ((impl_NextClaims.sel x44_3 ((rd_T44 l1 x34_2).f0) ((rd_T44 l1 x34_2).f1)) : Int) := od
                    have q613 : (impl_NextClaims.sel x44_3 ((rd_T44 l1 x34_2).f0) ((rd_T44 l1 x34_2).f1)) < (x7_3.length : Int) := od
                    obtain ⟨ad613, A613_0, c613_0, e613, hx613_0, hl613_0, hi613_0⟩ := at_L5 (Kd.S_reads' HO_7.out).2.2 (impl_NextClaims.sel x44_3 ((rd_T44 l1 x34_2).f0) ((rd_T44 l1 x34_2).f1)) p613 q613
                    cases e613
                    obtain ⟨ce613, hce613, hMe613, hcc613⟩ := Kd.S_get HO_7.out [] (impl_NextClaims.sel x44_3 ((rd_T44 l1 x34_2).f0) ((rd_T44 l1 x34_2).f1)) p613 (by first | exact q613 | exact od | (have e_ := (Kd.S_reads' HO_7.out).1; omega))
                    obtain ⟨ve613_0, rfl, ge613_0⟩ := hMe613
                    have hv613_0 := hcc613 0 _ rfl
                    rw [Nat.add_zero, show ((Kd.slice 3 (Kd.int .i64))).sz = 1 from rfl, Nat.mul_one] at hv613_0
                    replace hv613_0 := Option.some.inj (hv613_0.symm.trans hx613_0)
                    rw [hv613_0] at ge613_0
                    have HL613_0 := Aside0.mk (show Kd.R (Kd.int .i64) 3 _ _ _ _ (rd_L5 x7_3 (impl_NextClaims.sel x44_3 ((rd_T44 l1 x34_2).f0) ((rd_T44 l1 x34_2).f1))) from ge613_0)
                    clear hv613_0 ge613_0
                    clear hcc613 hce613
                    have HR613_0 := Aside0.mk hi613_0
                    have HC613_0 := Aside0.mk hl613_0
                    clear hi613_0 hl613_0
                    replace p613 := eq_true p613
                    replace q613 := eq_true q613
                    obtain ⟨Ao48, co48, eo48⟩ := Kd.R_slice HO612.out
                    subst eo48
                    try go_wp2_with (first | ((with_reducible refine gate_callee (f := 82) rfl ?_); refine goesL_ (some 76) rfl rfl Try.func82 (by kernel_rfl) rfl #[.slice Ao48 y610.length co48, .slice A613_0 (rd_L5 x7_3 (impl_NextClaims.sel x44_3 ((rd_T44 l1 x34_2).f0) ((rd_T44 l1 x34_2).f1))).length c613_0] rfl (by (try simp only [List.map_toArray, List.map_cons, List.map_nil]); first | done | rfl | (simp only [List.length_drop, List.length_take]; rfl)) ?_; (with_reducible refine (slices_Compare_int_int.calls k3 _ _ y610 _ _ (rd_L5 x7_3 (impl_NextClaims.sel x44_3 ((rd_T44 l1 x34_2).f0) ((rd_T44 l1 x34_2).f1))) t614 _ ?side1 ?side2 ?side3 ?side4 A30.out).mono ?_); (case side1 => repeat (first | exact (Kd.R_reads' HO612.out).2.2 | (with_reducible refine Kd.C_alloc ?_ _) | (with_reducible refine Kd.C_drewN ?_ _) | (with_reducible refine Kd.C_drew ?_))); (case side2 => exact (Kd.R_reads' HO612.out).2.1); (case side3 => repeat (first | exact (by repeat (first | (with_reducible exact HR613_0.out) | (with_reducible refine Kd.C_alloc ?_ _) | (with_reducible refine Kd.C_drewN ?_ _) | (with_reducible refine Kd.C_drew ?_) | exact HR613_0.out)) | (with_reducible refine Kd.C_alloc ?_ _) | (with_reducible refine Kd.C_drewN ?_ _) | (with_reducible refine Kd.C_drew ?_))); (case side4 => exact HC613_0.out); rintro e w' ⟨rfl, ⟨nd, rfl⟩⟩; refine ⟨_, rfl, ?_⟩))
                    go_roundg k3
                    case measure => have := HJ3.out; have := HK2.out; have := HK3.out; omega
                    case rel => exact ⟨(x7_3), (wrap64 (x44_3 + 1)), fs, H', ⟨by have := HJ3.out; have := HK2.out; have := HK3.out; omega⟩, ⟨by (with_reducible repeat (first | apply Kd.S_alloc | apply Kd.S_drewN | apply Kd.S_drew)); exact Kd.S_mono HO_7.out (fun _ hk => trivial)⟩, ⟨by (with_reducible repeat (first | refine blk_drewN ?_ _ | refine blk_drew ?_ | refine blk_alloc ?_ _)); exact BK603.out⟩, ⟨bw HB.out⟩⟩
                  ·rw [if_neg c29] at H
                   exact absurd H (by simp)
                 ·rw [if_neg c28] at H
                  exact absurd H (by simp)
                ·rw [if_neg c27] at H
                 exact absurd H (by simp)
               ·rw [if_neg c26] at H
                exact absurd H (by simp)
              ·rw [if_neg c25] at H
               exact absurd H (by simp)
             ·rw [if_neg c24] at H
              exact absurd H (by simp)
            ·rw [if_neg c22] at H
             exact absurd H (by simp)
           ·rw [if_neg c21] at H
            have c21b0 : decide (x44_3 < 2) = false := decide_eq_false c21
            clear c21
            have H' := Aside0.mk H
            clear H
            go_wp2
            go_roundg k3
            case measure => have := HJ3.out; have := HK2.out; have := HK3.out; omega
            case rel => exact ⟨(x7_3), (wrap64 (x34_2 + 1)), fs, H', ⟨by have := HJ3.out; have := HK2.out; have := HK3.out; omega⟩, ⟨by (with_reducible repeat (first | apply Kd.S_alloc | apply Kd.S_drewN | apply Kd.S_drew)); exact HO_7.out⟩, ⟨bw HB.out⟩⟩
        ·rw [if_neg c18] at H
         exact absurd H (by simp)
       ·rw [if_neg c17] at H
        exact absurd H (by simp)
      ·rw [if_neg c16] at H
       have c16b0 : decide (x34_2 < (l1.length : Int)) = false := decide_eq_false c16
       clear c16
       obtain rfl := Option.some.inj H
       go_wp2
       go_ret
       exact ⟨_, fe, by (with_reducible repeat (first | apply Kd.S_alloc | apply Kd.S_drewN | apply Kd.S_drew)); exact HO_7.out, bw HB.out⟩

/-! ### spec_l7Less: function 85 -/
-- IMPORT HSq
def spec_l7Less.l0 : Nat → List Int → List Int → Int → Option (Bool)
 | 0, _, _, _ => none
 | k + 1, x0, x1, x5 => if x5 < 4 then (if 0 ≤ x5 then (if x5 < (x0.length : Int) then (if x5 < (x1.length : Int) then (if (rd x0 x5) = (rd x1 x5) then (spec_l7Less.l0 k x0 x1 (wrap64 (x5 + 1))) else (some (decide ((rd x0 x5) < (rd x1 x5))))) else (none)) else (none)) else (none)) else (some false)
def spec_l7Less.f (k : Nat) (l0 : List Int) (l1 : List Int) : Option (Bool) := spec_l7Less.l0 k l0 l1 0
set_option maxHeartbeats 8000000 in
set_option maxRecDepth 100000 in
theorem spec_l7Less.calls (k : Nat) (A0 : Option Addr) (c0 : Nat) (l0 : List Int) (A1 : Option Addr) (c1 : Nat) (l1 : List Int) (r : Bool) (w : World) (hr0 : Kd.C (Kd.int .i64) w A0 l0.length l0) (hc0 : l0.length ≤ c0) (hr1 : Kd.C (Kd.int .i64) w A1 l1.length l1) (hc1 : l1.length ≤ c1) (h : spec_l7Less.f k l0 l1 = some r) :
  Calls Try.prog 85 #[.slice A0 l0.length c0, .slice A1 l1.length c1] w fun e w' => e = .returned (.bool r) ∧ Drawn0 w w' := by
 have HR0 := Aside0.mk hr0
 have HC0 := Aside0.mk hc0
 clear hr0 hc0
 have HR1 := Aside0.mk hr1
 have HC1 := Aside0.mk hc1
 clear hr1 hc1
 have H : (spec_l7Less.l0 k l0 l1 0) = some r := h
 clear h
 have H' := Aside0.mk H
 clear H
 go_enter Try.func85, Try.ntmps85
 go_wp2
 repeat (go_quiet (fail); try go_wp2)
 go_loopg [5] k (fun kq v5 w' => ∃ (x5_1 : Int), v5 = .int .i64 x5_1 ∧ Aside0 (spec_l7Less.l0 kq l0 l1 x5_1 = some r) ∧ Aside0 (kq ≤ k) ∧ Drawn0 w w')
 case atStart => exact ⟨(0), fs, H', ⟨Nat.le_refl _⟩, by repeat (first | exact Drawn0.refl _ | apply Drawn0.step)⟩
 case round =>
  clear H'
  try clear c1
  try clear p2
  obtain ⟨x5_1, rfl, HA, HK1, ⟨m1, rfl⟩⟩ := hrel
  cases gk with
  | zero => exact absurd HA.out (by simp [spec_l7Less.l0])
  | succ k1 =>
   have H := HA.out
   clear HA
   simp only [spec_l7Less.l0] at H
   by_cases c3 : x5_1 < 4
   ·rw [if_pos c3] at H
    have c3b0 : decide (x5_1 < 4) = true := decide_eq_true c3
    clear c3
    by_cases c4 : 0 ≤ x5_1
    ·rw [if_pos c4] at H
     have c4b0 : decide (0 ≤ x5_1) = true := decide_eq_true c4
     clear c4
     by_cases c5 : x5_1 < (l0.length : Int)
     ·rw [if_pos c5] at H
      have c5b0 : decide (x5_1 < (l0.length : Int)) = true := decide_eq_true c5
      clear c5
      by_cases c6 : x5_1 < (l1.length : Int)
      ·rw [if_pos c6] at H
       have c6b0 : decide (x5_1 < (l1.length : Int)) = true := decide_eq_true c6
       clear c6
       by_cases c7 : (rd l0 x5_1) = (rd l1 x5_1)
       ·rw [if_pos c7] at H
        have c7b0 : ((rd l0 x5_1) == (rd l1 x5_1)) = true := beq_iff_eq.mpr c7
        have c7b1 : ((rd l0 x5_1) != (rd l1 x5_1)) = false := bne_eq_false_iff_eq.mpr c7
        clear c7
        have H' := Aside0.mk H
        clear H
        have p627 : 0 ≤ (x5_1 : Int) := od
        have q627 : x5_1 < (l0.length : Int) := od
        obtain ⟨ad627, e627, hx627_0⟩ := Kd.at_int HR0.out x5_1 p627 q627
        cases e627
        replace p627 := eq_true p627
        replace q627 := eq_true q627
        have p628 : 0 ≤ (x5_1 : Int) := od
        have q628 : x5_1 < (l1.length : Int) := od
        obtain ⟨ad628, e628, hx628_0⟩ := Kd.at_int HR1.out x5_1 p628 q628
        cases e628
        replace p628 := eq_true p628
        replace q628 := eq_true q628
        go_wp2
        repeat (go_quiet (fail); try go_wp2)
        go_roundg k1
        case measure => have := HK1.out; omega
        case rel => exact ⟨(wrap64 (x5_1 + 1)), fs, H', ⟨by have := HK1.out; omega⟩, by repeat (first | exact Drawn0.refl _ | apply Drawn0.step)⟩
       ·rw [if_neg c7] at H
        have c7b0 : ((rd l0 x5_1) == (rd l1 x5_1)) = false := beq_eq_false_iff_ne.mpr c7
        have c7b1 : ((rd l0 x5_1) != (rd l1 x5_1)) = true := bne_iff_ne.mpr c7
        obtain rfl := Option.some.inj H
        have p627 : 0 ≤ (x5_1 : Int) := od
        have q627 : x5_1 < (l0.length : Int) := od
        obtain ⟨ad627, e627, hx627_0⟩ := Kd.at_int HR0.out x5_1 p627 q627
        cases e627
        replace p627 := eq_true p627
        replace q627 := eq_true q627
        have p628 : 0 ≤ (x5_1 : Int) := od
        have q628 : x5_1 < (l1.length : Int) := od
        obtain ⟨ad628, e628, hx628_0⟩ := Kd.at_int HR1.out x5_1 p628 q628
        cases e628
        replace p628 := eq_true p628
        replace q628 := eq_true q628
        have p629 : 0 ≤ (x5_1 : Int) := od
        have q629 : x5_1 < (l0.length : Int) := od
        obtain ⟨ad629, e629, hx629_0⟩ := Kd.at_int HR0.out x5_1 p629 q629
        obtain rfl : ad627 = ad629 := (by injection e629)
        replace p629 := eq_true p629
        replace q629 := eq_true q629
        have p630 : 0 ≤ (x5_1 : Int) := od
        have q630 : x5_1 < (l1.length : Int) := od
        obtain ⟨ad630, e630, hx630_0⟩ := Kd.at_int HR1.out x5_1 p630 q630
        obtain rfl : ad628 = ad630 := (by injection e630)
        replace p630 := eq_true p630
        replace q630 := eq_true q630
        go_wp2
        repeat (go_quiet (fail); try go_wp2)
        go_ret
        exact ⟨fs, by repeat (first | exact Drawn0.refl _ | apply Drawn0.step)⟩
      ·rw [if_neg c6] at H
       exact absurd H (by simp)
     ·rw [if_neg c5] at H
      exact absurd H (by simp)
    ·rw [if_neg c4] at H
     exact absurd H (by simp)
   ·rw [if_neg c3] at H
    have c3b0 : decide (x5_1 < 4) = false := decide_eq_false c3
    clear c3
    obtain rfl := Option.some.inj H
    go_wp2
    repeat (go_quiet (fail); try go_wp2)
    go_ret
    exact ⟨fs, by repeat (first | exact Drawn0.refl _ | apply Drawn0.step)⟩

end Go.Proofs.Ytegnghbgkiddoaa.PA
