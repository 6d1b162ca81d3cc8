-- Laid by this session's own program (pr.py) over the translation; Lean checks it.
import Derived.Test.YtecdngoknkmncaaPA0
import Derived.Test.YtecdngoknkmncaaPA1
import Derived.Test.YtecdngoknkmncaaPA4
namespace Go.Proofs.Ytecdngoknkmncaa.PA
open Go.RowKit Go.Proofs.YtecdngoknkmncaaW.PrintWords Go.Proofs.YtecdngoknkmncaaW.PrintLast Go.Proofs.YtecdngoknkmncaaW.PrintMore
attribute [local go_sem] max2_int min2_int max_two min_two max_three min_three max_four min_four   -- for this text's walks alone
set_option linter.unusedVariables false
set_option linter.unusedSimpArgs false

/-! ### spec_WaitsBefore: function 18 -/
mutual
def spec_WaitsBefore.l0 : Nat → List (S50) → List Int → Int → Int → Int → Option (Int)
  | 0, _, _, _, _, _ => none
  | k + 1, x0, x1, x2, x7, x8 => if x8 < (x1.length : Int) then (if 0 ≤ x8 then ((spec_l1In.f (rd x1 x8) 0 (wrap64 ((x0.length : Int) - 1))).bind fun t276 => (if t276 = true then (if 0 ≤ (rd x1 x8) then (if (rd x1 x8) < (x0.length : Int) then ((spec_l1In.f ((rd_T50 x0 (rd x1 x8)).f1) 1 9).bind fun t279 => (if t279 = true then (spec_WaitsBefore.l0 k x0 x1 x2 x7 (wrap64 (x8 + 1))) else (some (-1)))) else (none)) else (none)) else (some (-1)))) else (none)) else (spec_WaitsBefore.l1 k x0 x1 x2 x7 0)
def spec_WaitsBefore.l1 : Nat → List (S50) → List Int → Int → Int → Int → Option (Int)
  | 0, _, _, _, _, _ => none
  | k + 1, x0, x1, x2, x7, x9 => if x9 < (x1.length : Int) then (if 0 ≤ x9 then (if (rd x1 x9) = x2 then (some x7) else (if 0 ≤ (rd x1 x9) then (if (rd x1 x9) < (x0.length : Int) then (spec_WaitsBefore.l1 k x0 x1 x2 (wrap64 (x7 + ((rd_T50 x0 (rd x1 x9)).f1))) (wrap64 (x9 + 1))) else (none)) else (none))) else (none)) else (some (-1))
end
def spec_WaitsBefore.f (k : Nat) (l0 : List (S50)) (l1 : List Int) (a2 : Int) : Option (Int) := spec_WaitsBefore.l0 k l0 l1 a2 0 0
theorem spec_WaitsBefore.mono_l : ∀ k, (∀ y0 y1 y2 y3 y4, LeO (spec_WaitsBefore.l0 k y0 y1 y2 y3 y4) (spec_WaitsBefore.l0 (k + 1) y0 y1 y2 y3 y4)) ∧ (∀ y0 y1 y2 y3 y4, LeO (spec_WaitsBefore.l1 k y0 y1 y2 y3 y4) (spec_WaitsBefore.l1 (k + 1) y0 y1 y2 y3 y4))
  | 0 => ⟨fun _ _ _ _ _ r h => by simp [spec_WaitsBefore.l0] at h, fun _ _ _ _ _ r h => by simp [spec_WaitsBefore.l1] at h⟩
  | k + 1 => by
    obtain ⟨ih0, ih1⟩ := spec_WaitsBefore.mono_l k
    refine ⟨?_, ?_⟩
    · intro y0 y1 y2 y3 y4
      unfold spec_WaitsBefore.l0
      repeat' first
      | (with_reducible exact ih0 _ _ _ _ _)
      | (with_reducible exact ih1 _ _ _ _ _)
      | (with_reducible exact LeO.refl _)
      | (with_reducible exact LeO.none _)
      | (with_reducible refine LeO.ite ?_ ?_)
      | (with_reducible refine LeO.bind ?_ (fun _ => ?_))
      | exact ih0 _ _ _ _ _
      | exact ih1 _ _ _ _ _
      | exact LeO.none _
      | refine LeO.ite ?_ ?_
      | refine LeO.bind ?_ (fun _ => ?_)
    · intro y0 y1 y2 y3 y4
      unfold spec_WaitsBefore.l1
      repeat' first
      | (with_reducible exact ih0 _ _ _ _ _)
      | (with_reducible exact ih1 _ _ _ _ _)
      | (with_reducible exact LeO.refl _)
      | (with_reducible exact LeO.none _)
      | (with_reducible refine LeO.ite ?_ ?_)
      | (with_reducible refine LeO.bind ?_ (fun _ => ?_))
      | exact ih0 _ _ _ _ _
      | exact ih1 _ _ _ _ _
      | exact LeO.none _
      | refine LeO.ite ?_ ?_
      | refine LeO.bind ?_ (fun _ => ?_)
theorem spec_WaitsBefore.mono : ∀ a0 a1 a2 k, LeO (spec_WaitsBefore.f k a0 a1 a2) (spec_WaitsBefore.f (k + 1) a0 a1 a2) := by
  intro a0 a1 a2 k
  obtain ⟨ih0, ih1⟩ := spec_WaitsBefore.mono_l k
  unfold spec_WaitsBefore.f
  repeat' first
      | (with_reducible exact ih0 _ _ _ _ _)
      | (with_reducible exact ih1 _ _ _ _ _)
      | (with_reducible exact LeO.refl _)
      | (with_reducible exact LeO.none _)
      | (with_reducible refine LeO.ite ?_ ?_)
      | (with_reducible refine LeO.bind ?_ (fun _ => ?_))
      | exact ih0 _ _ _ _ _
      | exact ih1 _ _ _ _ _
      | exact LeO.none _
      | refine LeO.ite ?_ ?_
      | refine LeO.bind ?_ (fun _ => ?_)
set_option maxHeartbeats 8000000 in
set_option maxRecDepth 100000 in
theorem spec_WaitsBefore.calls (k : Nat) (A0 : Option Addr) (c0 : Nat) (l0 : List (S50)) (A1 : Option Addr) (c1 : Nat) (l1 : List Int) (a2 : Int) (r : Int) (w : World) (hr0 : Kd.C k50 w A0 l0.length l0) (hc0 : l0.length ≤ c0) (hr1 : Kd.C (Kd.int .i64) w A1 l1.length l1) (hc1 : l1.length ≤ c1) (h : spec_WaitsBefore.f k l0 l1 a2 = some r) :
    Calls Try.prog 18 #[.slice A0 l0.length c0, .slice A1 l1.length c1, .int .i64 a2] w fun e w' => e = .returned (.int .i64 r) ∧ Drawn0 w w' := by
  have HR0 := Aside0.mk hr0
  have HC0 := Aside0.mk hc0
  clear hr0 hc0
  have HR1 := Aside0.mk hr1
  have HC1 := Aside0.mk hc1
  clear hr1 hc1
  have H : (spec_WaitsBefore.l0 k l0 l1 a2 0 0) = some r := h
  clear h
  have H' := Aside0.mk H
  clear H
  go_enter Try.func18, Try.ntmps18
  go_wp2
  go_loopg [8] k (fun kq v8 w' => ∃ (x8_1 : Int), v8 = .int .i64 x8_1 ∧ Aside0 (spec_WaitsBefore.l0 kq l0 l1 a2 0 x8_1 = some r) ∧ Aside0 (kq ≤ k) ∧ Drawn0 w w')
  case atStart => exact ⟨(0), (by first | rfl | (simp; done) | (simp [*]; done)), H', ⟨Nat.le_refl _⟩, by repeat (first | exact Drawn0.refl _ | apply Drawn0.step)⟩
  case round =>
    clear H'
    try clear c1
    try clear p2
    obtain ⟨x8_1, rfl, HA, HK1, ⟨m1, rfl⟩⟩ := hrel
    cases gk with
    | zero => exact absurd HA.out (by simp [spec_WaitsBefore.l0])
    | succ k1 =>
      have H := HA.out
      clear HA
      simp only [spec_WaitsBefore.l0] at H
      by_cases c4 : x8_1 < (l1.length : Int)
      · rw [if_pos c4] at H
        have c4b0 : decide (x8_1 < (l1.length : Int)) = true := decide_eq_true c4
        clear c4
        by_cases c5 : 0 ≤ x8_1
        · rw [if_pos c5] at H
          have c5b0 : decide (0 ≤ x8_1) = true := decide_eq_true c5
          clear c5
          replace H := Option.bind_eq_some_iff.mp H
          obtain ⟨t276, A60, H⟩ := H
          replace H : (if t276 = true then (if 0 ≤ (rd l1 x8_1) then (if (rd l1 x8_1) < (l0.length : Int) then ((spec_l1In.f ((rd_T50 l0 (rd l1 x8_1)).f1) 1 9).bind fun t279 => (if t279 = true then (spec_WaitsBefore.l0 k1 l0 l1 a2 0 (wrap64 (x8_1 + 1))) else (some (-1)))) else (none)) else (none)) else (some (-1))) = some r := H
          have A6 := Aside0.mk A60
          clear A60
          by_cases c7 : t276 = true
          · subst c7
            have H1 : (if 0 ≤ (rd l1 x8_1) then (if (rd l1 x8_1) < (l0.length : Int) then ((spec_l1In.f ((rd_T50 l0 (rd l1 x8_1)).f1) 1 9).bind fun t279 => (if t279 = true then (spec_WaitsBefore.l0 k1 l0 l1 a2 0 (wrap64 (x8_1 + 1))) else (some (-1)))) else (none)) else (none)) = some r := by rw [if_pos rfl] at H; exact H
            clear H
            have H := H1
            clear H1
            by_cases c8 : 0 ≤ (rd l1 x8_1)
            · rw [if_pos c8] at H
              have c8b0 : decide (0 ≤ (rd l1 x8_1)) = true := decide_eq_true c8
              clear c8
              by_cases c9 : (rd l1 x8_1) < (l0.length : Int)
              · rw [if_pos c9] at H
                have c9b0 : decide ((rd l1 x8_1) < (l0.length : Int)) = true := decide_eq_true c9
                clear c9
                replace H := Option.bind_eq_some_iff.mp H
                obtain ⟨t279, A100, H⟩ := H
                replace H : (if t279 = true then (spec_WaitsBefore.l0 k1 l0 l1 a2 0 (wrap64 (x8_1 + 1))) else (some (-1))) = some r := H
                have A10 := Aside0.mk A100
                clear A100
                by_cases c11 : t279 = true
                · subst c11
                  have H1 : (spec_WaitsBefore.l0 k1 l0 l1 a2 0 (wrap64 (x8_1 + 1))) = some r := by rw [if_pos rfl] at H; exact H
                  clear H
                  have H := H1
                  clear H1
                  have H' := Aside0.mk H
                  clear H
                  have p275 : 0 ≤ (x8_1 : Int) := of_decide_eq_true (by first | (with_reducible assumption) | assumption)
                  have q275 : x8_1 < (l1.length : Int) := of_decide_eq_true (by first | (with_reducible assumption) | assumption)
                  obtain ⟨ad275, e275, hx275_0⟩ := Kd.at_int HR1.out x8_1 p275 q275
                  cases e275
                  replace p275 := eq_true p275
                  replace q275 := eq_true q275
                  go_wp2_with (first | ((with_reducible refine gate_callee (f := 22) rfl ?_); refine goesL_ (some 23) rfl rfl Try.func22 (by kernel_rfl) rfl #[.int .i64 (rd l1 x8_1), .int .i64 0, .int .i64 (wrap64 ((l0.length : Int) - 1))] rfl (by (try simp only [List.map_toArray, List.map_cons, List.map_nil]); first | done | rfl | (simp only [List.length_drop, List.length_take]; rfl)) ?_; (with_reducible refine (spec_l1In.calls (rd l1 x8_1) 0 (wrap64 ((l0.length : Int) - 1)) true _ A6.out).mono ?_); rintro e w' ⟨rfl, ⟨nd, rfl⟩⟩; refine ⟨_, rfl, ?_⟩; have p277 : 0 ≤ (x8_1 : Int) := of_decide_eq_true (by first | (with_reducible assumption) | assumption); have q277 : x8_1 < (l1.length : Int) := of_decide_eq_true (by first | (with_reducible assumption) | assumption); obtain ⟨ad277, e277, hx277_0⟩ := Kd.at_int HR1.out x8_1 p277 q277; obtain rfl : ad275 = ad277 := (by injection e277); replace p277 := eq_true p277; replace q277 := eq_true q277; have p278 : 0 ≤ ((rd l1 x8_1) : Int) := of_decide_eq_true (by first | (with_reducible assumption) | assumption); have q278 : (rd l1 x8_1) < (l0.length : Int) := of_decide_eq_true (by first | (with_reducible assumption) | assumption); obtain ⟨ad278, e278, hx278_0, hx278_1⟩ := at_T50 HR0.out (rd l1 x8_1) p278 q278; cases e278; replace p278 := eq_true p278; replace q278 := eq_true q278) | (go_at_call 22; (with_reducible refine (spec_l1In.calls ((rd_T50 l0 (rd l1 x8_1)).f1) 1 9 true _ A10.out).mono ?_); rintro e w' ⟨rfl, ⟨nd, rfl⟩⟩))
                  go_roundg k1
                  case measure => have := HK1.out; omega
                  case rel => exact ⟨(wrap64 (x8_1 + 1)), (by first | rfl | (simp; done) | (simp [*]; done)), H', ⟨by have := HK1.out; omega⟩, by repeat (first | exact Drawn0.refl _ | apply Drawn0.step)⟩
                · replace c11 := Bool.eq_false_iff.mpr c11
                  subst c11
                  have H1 : (some (-1)) = some r := by rw [if_neg (show ¬ (false = true) by decide)] at H; exact H
                  clear H
                  have H := H1
                  clear H1
                  obtain rfl := Option.some.inj H
                  have p275 : 0 ≤ (x8_1 : Int) := of_decide_eq_true (by first | (with_reducible assumption) | assumption)
                  have q275 : x8_1 < (l1.length : Int) := of_decide_eq_true (by first | (with_reducible assumption) | assumption)
                  obtain ⟨ad275, e275, hx275_0⟩ := Kd.at_int HR1.out x8_1 p275 q275
                  cases e275
                  replace p275 := eq_true p275
                  replace q275 := eq_true q275
                  go_wp2_with (first | ((with_reducible refine gate_callee (f := 22) rfl ?_); refine goesL_ (some 23) rfl rfl Try.func22 (by kernel_rfl) rfl #[.int .i64 (rd l1 x8_1), .int .i64 0, .int .i64 (wrap64 ((l0.length : Int) - 1))] rfl (by (try simp only [List.map_toArray, List.map_cons, List.map_nil]); first | done | rfl | (simp only [List.length_drop, List.length_take]; rfl)) ?_; (with_reducible refine (spec_l1In.calls (rd l1 x8_1) 0 (wrap64 ((l0.length : Int) - 1)) true _ A6.out).mono ?_); rintro e w' ⟨rfl, ⟨nd, rfl⟩⟩; refine ⟨_, rfl, ?_⟩; have p277 : 0 ≤ (x8_1 : Int) := of_decide_eq_true (by first | (with_reducible assumption) | assumption); have q277 : x8_1 < (l1.length : Int) := of_decide_eq_true (by first | (with_reducible assumption) | assumption); obtain ⟨ad277, e277, hx277_0⟩ := Kd.at_int HR1.out x8_1 p277 q277; obtain rfl : ad275 = ad277 := (by injection e277); replace p277 := eq_true p277; replace q277 := eq_true q277; have p278 : 0 ≤ ((rd l1 x8_1) : Int) := of_decide_eq_true (by first | (with_reducible assumption) | assumption); have q278 : (rd l1 x8_1) < (l0.length : Int) := of_decide_eq_true (by first | (with_reducible assumption) | assumption); obtain ⟨ad278, e278, hx278_0, hx278_1⟩ := at_T50 HR0.out (rd l1 x8_1) p278 q278; cases e278; replace p278 := eq_true p278; replace q278 := eq_true q278) | (go_at_call 22; (with_reducible refine (spec_l1In.calls ((rd_T50 l0 (rd l1 x8_1)).f1) 1 9 false _ A10.out).mono ?_); rintro e w' ⟨rfl, ⟨nd, rfl⟩⟩))
                  go_ret
                  exact ⟨by first | rfl | (simp; done) | (simp [*]; done), by repeat (first | exact Drawn0.refl _ | apply Drawn0.step)⟩
              · rw [if_neg c9] at H
                exact absurd H (by simp)
            · rw [if_neg c8] at H
              exact absurd H (by simp)
          · replace c7 := Bool.eq_false_iff.mpr c7
            subst c7
            have H1 : (some (-1)) = some r := by rw [if_neg (show ¬ (false = true) by decide)] at H; exact H
            clear H
            have H := H1
            clear H1
            obtain rfl := Option.some.inj H
            have p275 : 0 ≤ (x8_1 : Int) := of_decide_eq_true (by first | (with_reducible assumption) | assumption)
            have q275 : x8_1 < (l1.length : Int) := of_decide_eq_true (by first | (with_reducible assumption) | assumption)
            obtain ⟨ad275, e275, hx275_0⟩ := Kd.at_int HR1.out x8_1 p275 q275
            cases e275
            replace p275 := eq_true p275
            replace q275 := eq_true q275
            go_wp2_with (first | ((with_reducible refine gate_callee (f := 22) rfl ?_); refine goesL_ (some 23) rfl rfl Try.func22 (by kernel_rfl) rfl #[.int .i64 (rd l1 x8_1), .int .i64 0, .int .i64 (wrap64 ((l0.length : Int) - 1))] rfl (by (try simp only [List.map_toArray, List.map_cons, List.map_nil]); first | done | rfl | (simp only [List.length_drop, List.length_take]; rfl)) ?_; (with_reducible refine (spec_l1In.calls (rd l1 x8_1) 0 (wrap64 ((l0.length : Int) - 1)) false _ A6.out).mono ?_); rintro e w' ⟨rfl, ⟨nd, rfl⟩⟩; refine ⟨_, rfl, ?_⟩))
            go_ret
            exact ⟨by first | rfl | (simp; done) | (simp [*]; done), by repeat (first | exact Drawn0.refl _ | apply Drawn0.step)⟩
        · rw [if_neg c5] at H
          exact absurd H (by simp)
      · rw [if_neg c4] at H
        have c4b0 : decide (x8_1 < (l1.length : Int)) = false := decide_eq_false c4
        clear c4
        have H' := Aside0.mk H
        clear H
        go_wp2
        go_loopg [7, 9] k1 (fun kq v7 v9 w' => ∃ (x7_2 : Int) (x9_2 : Int), v7 = .int .i64 x7_2 ∧ v9 = .int .i64 x9_2 ∧ Aside0 (spec_WaitsBefore.l1 kq l0 l1 a2 x7_2 x9_2 = some r) ∧ Aside0 (kq ≤ k1) ∧ Drawn0 w w')
        case atStart => exact ⟨(0), (0), (by first | rfl | (simp; done) | (simp [*]; done)), (by first | rfl | (simp; done) | (simp [*]; done)), H', ⟨Nat.le_refl _⟩, by repeat (first | exact Drawn0.refl _ | apply Drawn0.step)⟩
        case round =>
          clear H'
          try clear c1
          try clear c2
          try clear p2
          try clear q2
          try clear hx2
          try clear c4
          try clear c4b0
          try clear c5
          try clear c5b0
          try clear p6
          try clear c7
          try clear c8
          try clear c8b0
          try clear c9
          try clear c9b0
          try clear c11
          try clear hx275_0
          try clear hx277_0
          try clear hx278_0
          try clear hx278_1
          try clear p2
          try clear p275
          try clear p277
          try clear p278
          try clear q275
          try clear q277
          try clear q278
          obtain ⟨x7_2, x9_2, rfl, rfl, HA, HK2, ⟨m2, rfl⟩⟩ := hrel
          cases gk with
          | zero => exact absurd HA.out (by simp [spec_WaitsBefore.l1])
          | succ k2 =>
            have H := HA.out
            clear HA
            simp only [spec_WaitsBefore.l1] at H
            by_cases c12 : x9_2 < (l1.length : Int)
            · rw [if_pos c12] at H
              have c12b0 : decide (x9_2 < (l1.length : Int)) = true := decide_eq_true c12
              clear c12
              by_cases c13 : 0 ≤ x9_2
              · rw [if_pos c13] at H
                have c13b0 : decide (0 ≤ x9_2) = true := decide_eq_true c13
                clear c13
                by_cases c14 : (rd l1 x9_2) = a2
                · rw [if_pos c14] at H
                  have c14b0 : ((rd l1 x9_2) == a2) = true := beq_iff_eq.mpr c14
                  have c14b1 : ((rd l1 x9_2) != a2) = false := bne_eq_false_iff_eq.mpr c14
                  clear c14
                  obtain rfl := Option.some.inj H
                  have p280 : 0 ≤ (x9_2 : Int) := of_decide_eq_true (by first | (with_reducible assumption) | assumption)
                  have q280 : x9_2 < (l1.length : Int) := of_decide_eq_true (by first | (with_reducible assumption) | assumption)
                  obtain ⟨ad280, e280, hx280_0⟩ := Kd.at_int HR1.out x9_2 p280 q280
                  cases e280
                  replace p280 := eq_true p280
                  replace q280 := eq_true q280
                  go_wp2
                  go_ret
                  exact ⟨by first | rfl | (simp; done) | (simp [*]; done), by repeat (first | exact Drawn0.refl _ | apply Drawn0.step)⟩
                · rw [if_neg c14] at H
                  have c14b0 : ((rd l1 x9_2) == a2) = false := beq_eq_false_iff_ne.mpr c14
                  have c14b1 : ((rd l1 x9_2) != a2) = true := bne_iff_ne.mpr c14
                  by_cases c15 : 0 ≤ (rd l1 x9_2)
                  · rw [if_pos c15] at H
                    have c15b0 : decide (0 ≤ (rd l1 x9_2)) = true := decide_eq_true c15
                    clear c15
                    by_cases c16 : (rd l1 x9_2) < (l0.length : Int)
                    · rw [if_pos c16] at H
                      have c16b0 : decide ((rd l1 x9_2) < (l0.length : Int)) = true := decide_eq_true c16
                      clear c16
                      have H' := Aside0.mk H
                      clear H
                      have p280 : 0 ≤ (x9_2 : Int) := of_decide_eq_true (by first | (with_reducible assumption) | assumption)
                      have q280 : x9_2 < (l1.length : Int) := of_decide_eq_true (by first | (with_reducible assumption) | assumption)
                      obtain ⟨ad280, e280, hx280_0⟩ := Kd.at_int HR1.out x9_2 p280 q280
                      cases e280
                      replace p280 := eq_true p280
                      replace q280 := eq_true q280
                      have p281 : 0 ≤ (x9_2 : Int) := of_decide_eq_true (by first | (with_reducible assumption) | assumption)
                      have q281 : x9_2 < (l1.length : Int) := of_decide_eq_true (by first | (with_reducible assumption) | assumption)
                      obtain ⟨ad281, e281, hx281_0⟩ := Kd.at_int HR1.out x9_2 p281 q281
                      obtain rfl : ad280 = ad281 := (by injection e281)
                      replace p281 := eq_true p281
                      replace q281 := eq_true q281
                      have p282 : 0 ≤ ((rd l1 x9_2) : Int) := of_decide_eq_true (by first | (with_reducible assumption) | assumption)
                      have q282 : (rd l1 x9_2) < (l0.length : Int) := of_decide_eq_true (by first | (with_reducible assumption) | assumption)
                      obtain ⟨ad282, e282, hx282_0, hx282_1⟩ := at_T50 HR0.out (rd l1 x9_2) p282 q282
                      cases e282
                      replace p282 := eq_true p282
                      replace q282 := eq_true q282
                      go_wp2
                      go_roundg k2
                      case measure => have := HK1.out; have := HK2.out; omega
                      case rel => exact ⟨(wrap64 (x7_2 + ((rd_T50 l0 (rd l1 x9_2)).f1))), (wrap64 (x9_2 + 1)), (by first | rfl | (simp; done) | (simp [*]; done)), (by first | rfl | (simp; done) | (simp [*]; done)), H', ⟨by have := HK1.out; have := HK2.out; omega⟩, by repeat (first | exact Drawn0.refl _ | apply Drawn0.step)⟩
                    · rw [if_neg c16] at H
                      exact absurd H (by simp)
                  · rw [if_neg c15] at H
                    exact absurd H (by simp)
              · rw [if_neg c13] at H
                exact absurd H (by simp)
            · rw [if_neg c12] at H
              have c12b0 : decide (x9_2 < (l1.length : Int)) = false := decide_eq_false c12
              clear c12
              obtain rfl := Option.some.inj H
              go_wp2
              go_ret
              exact ⟨by first | rfl | (simp; done) | (simp [*]; done), by repeat (first | exact Drawn0.refl _ | apply Drawn0.step)⟩

/-! ### slices_Index_int_int: function 32 -/
def slices_Index_int_int.l0 : Nat → List Int → Int → Int → Int → Option (Int)
  | 0, _, _, _, _ => none
  | k + 1, x0, x1, x7, x8 => if x8 < x7 then (if 0 ≤ x8 then (if x8 < (x0.length : Int) then (if x1 = (rd x0 x8) then (some x8) else (slices_Index_int_int.l0 k x0 x1 x7 (wrap64 (x8 + 1)))) else (none)) else (none)) else (some (-1))
def slices_Index_int_int.f (k : Nat) (l0 : List Int) (a1 : Int) : Option (Int) := slices_Index_int_int.l0 k l0 a1 (l0.length : Int) 0
theorem slices_Index_int_int.mono_l : ∀ k, (∀ y0 y1 y2 y3, LeO (slices_Index_int_int.l0 k y0 y1 y2 y3) (slices_Index_int_int.l0 (k + 1) y0 y1 y2 y3))
  | 0 => fun _ _ _ _ r h => by simp [slices_Index_int_int.l0] at h
  | k + 1 => by
    have ih0 := slices_Index_int_int.mono_l k
    · intro y0 y1 y2 y3
      unfold slices_Index_int_int.l0
      repeat' first
      | (with_reducible exact ih0 _ _ _ _)
      | (with_reducible exact LeO.refl _)
      | (with_reducible exact LeO.none _)
      | (with_reducible refine LeO.ite ?_ ?_)
      | (with_reducible refine LeO.bind ?_ (fun _ => ?_))
      | exact ih0 _ _ _ _
      | exact LeO.none _
      | refine LeO.ite ?_ ?_
      | refine LeO.bind ?_ (fun _ => ?_)
theorem slices_Index_int_int.mono : ∀ a0 a1 k, LeO (slices_Index_int_int.f k a0 a1) (slices_Index_int_int.f (k + 1) a0 a1) := by
  intro a0 a1 k
  have ih0 := slices_Index_int_int.mono_l k
  unfold slices_Index_int_int.f
  repeat' first
      | (with_reducible exact ih0 _ _ _ _)
      | (with_reducible exact LeO.refl _)
      | (with_reducible exact LeO.none _)
      | (with_reducible refine LeO.ite ?_ ?_)
      | (with_reducible refine LeO.bind ?_ (fun _ => ?_))
      | exact ih0 _ _ _ _
      | exact LeO.none _
      | refine LeO.ite ?_ ?_
      | refine LeO.bind ?_ (fun _ => ?_)
set_option maxHeartbeats 8000000 in
set_option maxRecDepth 100000 in
theorem slices_Index_int_int.calls (k : Nat) (A0 : Option Addr) (c0 : Nat) (l0 : List Int) (a1 : Int) (r : Int) (w : World) (hr0 : Kd.C (Kd.int .i64) w A0 l0.length l0) (hc0 : l0.length ≤ c0) (h : slices_Index_int_int.f k l0 a1 = some r) :
    Calls Try.prog 32 #[.slice A0 l0.length c0, .int .i64 a1] w fun e w' => e = .returned (.int .i64 r) ∧ Drawn0 w w' := by
  have HR0 := Aside0.mk hr0
  have HC0 := Aside0.mk hc0
  clear hr0 hc0
  have H : (slices_Index_int_int.l0 k l0 a1 (l0.length : Int) 0) = some r := h
  clear h
  have H' := Aside0.mk H
  clear H
  go_enter Try.func32, Try.ntmps32
  go_wp2
  go_loopg [8] k (fun kq v8 w' => ∃ (x8_1 : Int), v8 = .int .i64 x8_1 ∧ Aside0 (slices_Index_int_int.l0 kq l0 a1 (l0.length : Int) x8_1 = some r) ∧ Aside0 (kq ≤ k) ∧ Drawn0 w w')
  case atStart => exact ⟨(0), (by first | rfl | (simp; done) | (simp [*]; done)), H', ⟨Nat.le_refl _⟩, by repeat (first | exact Drawn0.refl _ | apply Drawn0.step)⟩
  case round =>
    clear H'
    try clear p2
    obtain ⟨x8_1, rfl, HA, HK1, ⟨m1, rfl⟩⟩ := hrel
    cases gk with
    | zero => exact absurd HA.out (by simp [slices_Index_int_int.l0])
    | succ k1 =>
      have H := HA.out
      clear HA
      simp only [slices_Index_int_int.l0] at H
      by_cases c3 : x8_1 < (l0.length : Int)
      · rw [if_pos c3] at H
        have c3b0 : decide (x8_1 < (l0.length : Int)) = true := decide_eq_true c3
        clear c3
        by_cases c4 : 0 ≤ x8_1
        · rw [if_pos c4] at H
          have c4b0 : decide (0 ≤ x8_1) = true := decide_eq_true c4
          clear c4
          by_cases c5 : x8_1 < (l0.length : Int)
          · rw [if_pos c5] at H
            have c5b0 : decide (x8_1 < (l0.length : Int)) = true := decide_eq_true c5
            clear c5
            by_cases c6 : a1 = (rd l0 x8_1)
            · rw [if_pos c6] at H
              have c6b0 : (a1 == (rd l0 x8_1)) = true := beq_iff_eq.mpr c6
              have c6b1 : (a1 != (rd l0 x8_1)) = false := bne_eq_false_iff_eq.mpr c6
              clear c6
              obtain rfl := Option.some.inj H
              have p283 : 0 ≤ (x8_1 : Int) := of_decide_eq_true (by first | (with_reducible assumption) | assumption)
              have q283 : x8_1 < (l0.length : Int) := of_decide_eq_true (by first | (with_reducible assumption) | assumption)
              obtain ⟨ad283, e283, hx283_0⟩ := Kd.at_int HR0.out x8_1 p283 q283
              cases e283
              replace p283 := eq_true p283
              replace q283 := eq_true q283
              go_wp2
              go_ret
              exact ⟨by first | rfl | (simp; done) | (simp [*]; done), by repeat (first | exact Drawn0.refl _ | apply Drawn0.step)⟩
            · rw [if_neg c6] at H
              have c6b0 : (a1 == (rd l0 x8_1)) = false := beq_eq_false_iff_ne.mpr c6
              have c6b1 : (a1 != (rd l0 x8_1)) = true := bne_iff_ne.mpr c6
              have H' := Aside0.mk H
              clear H
              have p283 : 0 ≤ (x8_1 : Int) := of_decide_eq_true (by first | (with_reducible assumption) | assumption)
              have q283 : x8_1 < (l0.length : Int) := of_decide_eq_true (by first | (with_reducible assumption) | assumption)
              obtain ⟨ad283, e283, hx283_0⟩ := Kd.at_int HR0.out x8_1 p283 q283
              cases e283
              replace p283 := eq_true p283
              replace q283 := eq_true q283
              go_wp2
              go_roundg k1
              case measure => have := HK1.out; omega
              case rel => exact ⟨(wrap64 (x8_1 + 1)), (by first | rfl | (simp; done) | (simp [*]; done)), H', ⟨by have := HK1.out; omega⟩, by repeat (first | exact Drawn0.refl _ | apply Drawn0.step)⟩
          · rw [if_neg c5] at H
            exact absurd H (by simp)
        · rw [if_neg c4] at H
          exact absurd H (by simp)
      · rw [if_neg c3] at H
        have c3b0 : decide (x8_1 < (l0.length : Int)) = false := decide_eq_false c3
        clear c3
        obtain rfl := Option.some.inj H
        go_wp2
        go_ret
        exact ⟨by first | rfl | (simp; done) | (simp [*]; done), by repeat (first | exact Drawn0.refl _ | apply Drawn0.step)⟩

/-! ### impl_WaitsBefore: function 19 -/
def impl_WaitsBefore.okI (l0 : List S50) (i : Int) : Bool := decide (0 ≤ i ∧ i ≤ (l0.length : Int) - 1) && decide (1 ≤ (rd_T50 l0 i).f1 ∧ (rd_T50 l0 i).f1 ≤ 9)
def impl_WaitsBefore.sumN (l0 : List S50) (l1 : List Int) : Nat → Int
 | 0 => 0
 | n + 1 => impl_WaitsBefore.sumN l0 l1 n + (rd_T50 l0 (rd l1 (n : Int))).f1
def impl_WaitsBefore.f (k : Nat) (l0 : List S50) (l1 : List Int) (a2 : Int) : Option Int :=
  if l1.length ≤ 1000000000000 then (slices_Index_int_int.f k l1 a2).bind fun t => if t < 0 then some (-1) else if t < (l1.length : Int) then (if l1.all (impl_WaitsBefore.okI l0) = true then some (impl_WaitsBefore.sumN l0 l1 t.toNat) else some (-1)) else none else none
theorem impl_WaitsBefore.mono (l0 : List S50) (l1 : List Int) (a2 : Int) (k : Nat) : LeO (impl_WaitsBefore.f k l0 l1 a2) (impl_WaitsBefore.f (k + 1) l0 l1 a2) := by
  unfold impl_WaitsBefore.f
  repeat' first
    | (with_reducible exact slices_Index_int_int.mono _ _ _)
    | (with_reducible exact LeO.refl _)
    | (with_reducible exact LeO.none _)
    | (with_reducible refine LeO.ite ?_ ?_)
    | (with_reducible refine LeO.bind ?_ (fun _ => ?_))
theorem impl_WaitsBefore.ok_at {l0 : List S50} {l1 : List Int} (h : l1.all (impl_WaitsBefore.okI l0) = true) (j : Nat) (hj : j < l1.length) : 0 ≤ rd l1 (j : Int) ∧ rd l1 (j : Int) < (l0.length : Int) ∧ 1 ≤ (rd_T50 l0 (rd l1 (j : Int))).f1 ∧ (rd_T50 l0 (rd l1 (j : Int))).f1 ≤ 9 := by
  have e : rd l1 (j : Int) = l1[j] := by simp [rd, List.getD_eq_getElem?_getD, hj]
  have := List.all_eq_true.1 h _ (List.getElem_mem hj)
  rw [e]
  simp only [impl_WaitsBefore.okI, Bool.and_eq_true, decide_eq_true_eq] at this
  omega
theorem impl_WaitsBefore.sum_le {l0 : List S50} {l1 : List Int} (h : l1.all (impl_WaitsBefore.okI l0) = true) : ∀ j : Nat, j ≤ l1.length → 0 ≤ impl_WaitsBefore.sumN l0 l1 j ∧ impl_WaitsBefore.sumN l0 l1 j ≤ 9 * (j : Int) := by
  intro j
  induction j with
  | zero => intro _; exact ⟨Int.le_refl _, Int.le_refl _⟩
  | succ j ih =>
    intro hj
    have h1 := ih (by omega)
    have h2 := impl_WaitsBefore.ok_at h j (by omega)
    show 0 ≤ impl_WaitsBefore.sumN l0 l1 j + _ ∧ impl_WaitsBefore.sumN l0 l1 j + _ ≤ 9 * ((j + 1 : Nat) : Int)
    omega
def impl_WaitsBefore.inB (a b c : Int) : Bool := decide (b ≤ a ∧ a ≤ c)
theorem impl_WaitsBefore.within (a b c : Int) (w : World) : Calls Try.prog 24 #[.int .i64 a, .int .i64 b, .int .i64 c] w fun e w' => e = .returned (.bool (impl_WaitsBefore.inB a b c)) ∧ Drawn0 w w' :=
  impl_within.calls a b c _ w (by unfold impl_within.f impl_WaitsBefore.inB; by_cases h : b ≤ a <;> simp [h])
set_option maxHeartbeats 4000000 in
theorem impl_WaitsBefore.pred (l0 : List S50) (A0 : Option Addr) (c0 B : Nat) (w : World) (hr : Kd.C k50 w A0 l0.length l0) (hB : B < w.heap.size) (hc : w.cell? ⟨B, 0, none⟩ = some (.slice A0 l0.length c0)) :
    H.PredInt 34 #[.pointer (some ⟨B, 0, none⟩)] (impl_WaitsBefore.okI l0) w := by
  intro W x hb
  have hc' : W.cell? ⟨B, 0, none⟩ = some (.slice A0 l0.length c0) := (hb.cell (p := ⟨B, 0, none⟩) hB).trans hc
  have hr' := Kd.C_below hr hb
  have hlen : l0.length ≤ 9223372036854775807 := hr'.2.1
  clear hc hb hB hr
  show Calls Try.prog 34 #[.int .i64 x, .pointer (some ⟨B, 0, none⟩)] W fun e w' => e = .returned (.bool (impl_WaitsBefore.inB x 0 ((l0.length : Int) - 1) && impl_WaitsBefore.inB (rd_T50 l0 x).f1 1 9)) ∧ Below W.heap.size W w'
  have HBW := Aside0.mk (Below.refl W.heap.size W)
  have HR := Aside0.mk hr'
  clear hr'
  cases q0 : impl_WaitsBefore.inB x 0 ((l0.length : Int) - 1) with
  | false =>
    clear HR
    go_enter Try.func34, Try.ntmps34
    go_wp2_with (first | (go_at_call 24; refine (impl_WaitsBefore.within _ _ _ _).mono ?_; rintro e w' ⟨rfl, ⟨nd, rfl⟩⟩))
    go_ret
    exact ⟨rfl, by repeat (first | (with_reducible first | exact HBW.out | apply below_alloc | apply pw_below_drewN | apply below_drew1) | exact HBW.out)⟩
  | true =>
    have hx : 0 ≤ x ∧ x ≤ (l0.length : Int) - 1 := of_decide_eq_true q0
    have k0 : 0 ≤ x := hx.1
    have k1 : x < (l0.length : Int) := by omega
    have c0' : decide (0 ≤ x) = true := decide_eq_true k0
    have c1' : decide (x < (l0.length : Int)) = true := decide_eq_true k1
    obtain ⟨ad, e0, hk0, hk1⟩ := at_T50 HR.out x k0 k1
    cases e0
    clear hx HR
    replace k0 := eq_true k0
    replace k1 := eq_true k1
    generalize (rd_T50 l0 x).f1 = y at hk1 ⊢
    generalize q4 : impl_WaitsBefore.inB y 1 9 = b2
    go_enter Try.func34, Try.ntmps34
    go_wp2_with (first | (go_at_call 24; refine (impl_WaitsBefore.within _ _ _ _).mono ?_; rintro e w' ⟨rfl, ⟨nd, rfl⟩⟩))
    go_ret
    exact ⟨rfl, by repeat (first | (with_reducible first | exact HBW.out | apply below_alloc | apply pw_below_drewN | apply below_drew1) | exact HBW.out)⟩
set_option maxHeartbeats 8000000 in
theorem impl_WaitsBefore.calls (k : Nat) (A0 : Option Addr) (c0 : Nat) (l0 : List S50) (A1 : Option Addr) (c1 : Nat) (l1 : List Int) (a2 : Int) (r : Int) (w : World) (hr0 : Kd.C k50 w A0 l0.length l0) (hc0 : l0.length ≤ c0) (hr1 : Kd.C (Kd.int .i64) w A1 l1.length l1) (hc1 : l1.length ≤ c1) (h : impl_WaitsBefore.f k l0 l1 a2 = some r) :
    Calls Try.prog 19 #[.slice A0 l0.length c0, .slice A1 l1.length c1, .int .i64 a2] w fun e w' => e = .returned (.int .i64 r) ∧ Below w.heap.size w w' := by
  have e1 : ∀ args w, (callFunc 34 args).run Try.prog w = .ok (.enter 34 args) w := enters_of Try.func34 (by kernel_rfl) rfl
  unfold impl_WaitsBefore.f at h
  by_cases hl : l1.length ≤ 1000000000000
  rotate_left 1
  · rw [if_neg hl] at h
    cases h
  rw [if_pos hl] at h
  replace h := Option.bind_eq_some_iff.mp h
  obtain ⟨t, ht, h⟩ := h
  try dsimp only at h
  have HT := Aside0.mk ht
  clear ht
  have hb1 : Below w.heap.size w (w.alloc (.cells #[.slice A0 l0.length c0] 34)) := below_alloc (Below.refl _ _) _
  have HB1 := Aside0.mk hb1
  have HR1 := Aside0.mk hr1
  have HC1 := Aside0.mk hc1
  by_cases p0 : t < 0
  · rw [if_pos p0] at h
    obtain rfl := Option.some.inj h
    have p1 : decide (t < 0) = true := decide_eq_true p0
    clear h p0 hr0 hc0 hr1 hc1 hb1 e1
    go_enter Try.func19, Try.ntmps19
    go_wp2_with fail
    refine (slices_Index_int_int.calls k A1 c1 l1 a2 t _ (by (with_reducible repeat (first | apply Kd.C_alloc | apply Kd.C_drewN | apply Kd.C_drew)); exact HR1.out) HC1.out HT.out).mono ?_
    rintro e w' ⟨rfl, ⟨nd, rfl⟩⟩
    go_wp2_with fail
    go_ret
    exact ⟨rfl, by repeat (first | (with_reducible first | exact HB1.out | apply below_alloc | apply pw_below_drewN | apply below_drew1) | exact HB1.out)⟩
  rw [if_neg p0] at h
  have p1 : decide (t < 0) = false := decide_eq_false p0
  by_cases p2 : t < (l1.length : Int)
  rotate_left 1
  · rw [if_neg p2] at h
    cases h
  rw [if_pos p2] at h
  obtain ⟨m, rfl⟩ := Int.eq_ofNat_of_zero_le (show 0 ≤ t by omega)
  rw [Int.toNat_natCast] at h
  have hml : m < l1.length := by omega
  have hall : ∀ W : World, Below (w.alloc (.cells #[.slice A0 l0.length c0] 34)).heap.size (w.alloc (.cells #[.slice A0 l0.length c0] 34)) W → Calls Try.prog 33 #[.slice A1 l1.length c1, .func (.func 34) #[] #[.pointer (some ⟨w.heap.size, 0, none⟩)]] W fun e w' => e = .returned (.bool (l1.all (impl_WaitsBefore.okI l0))) ∧ Below W.heap.size W w' := fun W hW =>
    H.all_int _ 34 #[.pointer (some ⟨w.heap.size, 0, none⟩)] e1 A1 c1 l1 W (impl_WaitsBefore.pred l0 A0 c0 w.heap.size W (Kd.C_below (Kd.C_below hr0 hb1) hW) (Nat.lt_of_lt_of_le (by simp) hW.size) ((hW.cell (p := ⟨w.heap.size, 0, none⟩) (by simp)).trans (by simp))) (Kd.C_below (Kd.C_below hr1 hb1) hW)
  have HALL := Aside0.mk hall
  have hbox : ∀ W : World, Below (w.alloc (.cells #[.slice A0 l0.length c0] 34)).heap.size (w.alloc (.cells #[.slice A0 l0.length c0] 34)) W → W.cell? ⟨w.heap.size, 0, none⟩ = some (.slice A0 l0.length c0) ∧ Kd.C k50 W A0 l0.length l0 ∧ Kd.C (Kd.int .i64) W A1 l1.length l1 := fun W hW =>
    ⟨(hW.cell (p := ⟨w.heap.size, 0, none⟩) (by simp)).trans (by simp), Kd.C_below (Kd.C_below hr0 hb1) hW, Kd.C_below (Kd.C_below hr1 hb1) hW⟩
  have HBOX := Aside0.mk hbox
  clear hall hbox hb1 e1 hr0 hc0 hr1 hc1 p0 p2
  cases hq : l1.all (impl_WaitsBefore.okI l0) with
  | false =>
    rw [hq, if_neg (by decide)] at h
    obtain rfl := Option.some.inj h
    rw [hq] at HALL
    clear h hq HBOX
    go_enter Try.func19, Try.ntmps19
    go_wp2_with fail
    refine (slices_Index_int_int.calls k A1 c1 l1 a2 (m : Int) _ (by (with_reducible repeat (first | apply Kd.C_alloc | apply Kd.C_drewN | apply Kd.C_drew)); exact HR1.out) HC1.out HT.out).mono ?_
    rintro e w' ⟨rfl, ⟨nd, rfl⟩⟩
    go_wp2_with fail
    refine (HALL.out _ (by repeat (first | exact Below.refl _ _ | apply pw_below_drewN | apply below_drew1))).mono ?_
    clear HALL
    rintro e w' ⟨rfl, hb⟩
    have HB3 := Aside0.mk (below_step (by repeat (first | (with_reducible first | exact HB1.out | apply below_alloc | apply pw_below_drewN | apply below_drew1) | exact HB1.out)) hb)
    clear hb
    go_wp2_with fail
    go_ret
    exact ⟨rfl, by repeat (first | (with_reducible first | exact HB3.out | apply below_alloc | apply pw_below_drewN | apply below_drew1) | exact HB3.out)⟩
  | true =>
    rw [hq, if_pos rfl] at h
    obtain rfl := Option.some.inj h
    rw [hq] at HALL
    have HQ := Aside0.mk hq
    clear h hq
    obtain ⟨ad1, rfl, hx_⟩ := HR1.out.2.2 (by omega)
    clear hx_
    have hmc : (m ≤ c1) = True := eq_true (by have := HC1.out; omega)
    have hc10 : (c1 = 0) = False := eq_false (by have := HC1.out; omega)
    go_enter Try.func19, Try.ntmps19
    go_wp2_with fail
    refine (slices_Index_int_int.calls k (some ad1) c1 l1 a2 (m : Int) _ (by (with_reducible repeat (first | apply Kd.C_alloc | apply Kd.C_drewN | apply Kd.C_drew)); exact HR1.out) HC1.out HT.out).mono ?_
    rintro e w' ⟨rfl, ⟨nd, rfl⟩⟩
    go_wp2_with fail
    refine (HALL.out _ (by repeat (first | exact Below.refl _ _ | apply pw_below_drewN | apply below_drew1))).mono ?_
    clear HALL
    rintro e w' ⟨rfl, hb⟩
    have HB0 := Aside0.mk (show Below (w.alloc (.cells #[.slice A0 l0.length c0] 34)).heap.size (w.alloc (.cells #[.slice A0 l0.length c0] 34)) w' from below_step (by repeat (first | exact Below.refl _ _ | apply pw_below_drewN | apply below_drew1)) hb)
    clear hb HT
    go_wp2_with fail
    go_loopg [8, 10, 26] m (fun kq v8 v10 v26 wr => ∃ j : Nat, v26 = .int .i64 (j : Int) ∧ v8 = .int .i64 (impl_WaitsBefore.sumN l0 l1 j) ∧ Aside0 (j ≤ m ∧ m - j ≤ kq) ∧ Aside0 (Below (w.alloc (.cells #[.slice A0 l0.length c0] 34)).heap.size (w.alloc (.cells #[.slice A0 l0.length c0] 34)) wr))
    case atStart => exact ⟨0, rfl, rfl, ⟨⟨Nat.zero_le _, by omega⟩⟩, ⟨by repeat (first | (with_reducible first | exact HB0.out | apply pw_below_drewN | apply below_drew1) | exact HB0.out)⟩⟩
    case round =>
      clear HB0
      obtain ⟨j, rfl, rfl, HJ, HB0⟩ := hrel
      by_cases c : j < m
      · have hok := impl_WaitsBefore.ok_at HQ.out j (by omega)
        have hsl := impl_WaitsBefore.sum_le HQ.out j (by omega)
        obtain ⟨hb0, hb1, hb2⟩ := HBOX.out _ HB0.out
        have q1 : decide ((j : Int) < (m : Int)) = true := decide_eq_true (by omega)
        have q2 : decide (0 ≤ (j : Int)) = true := decide_eq_true (by omega)
        have hj2 : j ≤ 1000000000000 := by omega
        obtain ⟨ad2, e2, hx2⟩ := Kd.at_int hb2 (j : Int) (by omega) (by omega)
        cases e2
        simp only [Int.toNat_natCast, Nat.mul_one] at hx2
        obtain ⟨ad0, e0, hk0, hk1⟩ := at_T50 hb1 (rd l1 (j : Int)) hok.1 hok.2.1
        cases e0
        have hs : impl_WaitsBefore.sumN l0 l1 (j + 1) = impl_WaitsBefore.sumN l0 l1 j + (rd_T50 l0 (rd l1 (j : Int))).f1 := rfl
        have HS := Aside0.mk hs
        have q3 : (0 ≤ rd l1 (j : Int)) = True := eq_true hok.1
        have q4 : (rd l1 (j : Int) < (l0.length : Int)) = True := eq_true hok.2.1
        obtain ⟨_, _, hy0, hy1⟩ := hok
        generalize (rd_T50 l0 (rd l1 (j : Int))).f1 = y at hk1 HS hy0 hy1
        generalize rd l1 (j : Int) = x at hx2 hk0 hk1 q3 q4
        generalize impl_WaitsBefore.sumN l0 l1 j = s at hsl HS ⊢
        clear hs hb1 hb2
        go_wp2_with fail
        go_roundg (m - (j + 1))
        case measure => have := HJ.out; omega
        case rel => exact ⟨j + 1, by go_num, by rw [HS.out], ⟨⟨by omega, by have := HJ.out; omega⟩⟩, ⟨by repeat (first | (with_reducible first | exact HB0.out | apply pw_below_drewN | apply below_drew1) | exact HB0.out)⟩⟩
      · obtain rfl : j = m := by have := HJ.out; omega
        have q1 : decide ((j : Int) < (j : Int)) = false := decide_eq_false (by omega)
        have HB3 := Aside0.mk (show Below w.heap.size w _ from below_then HB1.out (by simp) HB0.out)
        go_wp2_with fail
        go_ret
        exact ⟨rfl, by repeat (first | (with_reducible first | exact HB3.out | apply below_alloc | apply pw_below_drewN | apply below_drew1) | exact HB3.out)⟩

end Go.Proofs.Ytecdngoknkmncaa.PA
