-- Laid by this session's own program (pr.py) over the translation; Lean checks it.
import Derived.Test.YtjnopjnickcloaaPA0
import Derived.Test.YtjnopjnickcloaaPA4
import Derived.Test.YtjnopjnickcloaaPA6
import Derived.Test.YtjnopjnickcloaaPA11
import Derived.Test.YtjnopjnickcloaaPA13
import Derived.Test.YtjnopjnickcloaaPA18
namespace Go.Proofs.Ytjnopjnickcloaa.PA
open Go.RowKit Go.Proofs.YtjnopjnickcloaaW.PrintWords Go.Proofs.YtjnopjnickcloaaW.PrintLast Go.Proofs.YtjnopjnickcloaaW.PrintMore
attribute [local go_sem] max2_int min2_int max_two min_two max_three min_three max_four min_four   -- for this text's walks alone
set_option linter.unusedVariables false
set_option linter.unusedSimpArgs false

/-! ### laws_FnExactRunToken: function 10 -/
mutual
def laws_FnExactRunToken.j0 : Nat → List Int → Int → Int → Bool → List Int → Bool → Bool → List Int → Int → Int → Bool → List Int → Int → Int → Bool → Option (Bool)
  | 0, _, _, _, _, _, _, _, _, _, _, _, _, _, _, _ => none
  | k + 1, x0, x1, x2, x8, x9, x11, x45, x413000, x413001, x413002, x413003, x424000, x424001, x424002, x424003 => if x45 = true then (some false) else ((laws_toIntS.f k x0).bind fun t425 => ((laws_eqIntS.f k x9 t425).bind fun t428 => (if t428 = true then ((laws_markIntS.f k x9 1).bind fun bt429 => (if bt429.1 < 0 then (laws_FnExactRunToken.j1 k x0 x1 x2 x8 true x413000 x413001 x413002 x413003 x424000 x424001 x424002 x424003) else ((laws_eqTalkRun.f k x424000 x424001 x424002 x424003 x413000 x413001 x413002 x413003).bind fun t431 => (if t431 = true then (laws_FnExactRunToken.j1 k x0 x1 x2 x8 (x11 != x8) x413000 x413001 x413002 x413003 x424000 x424001 x424002 x424003) else (laws_FnExactRunToken.j1 k x0 x1 x2 x8 true x413000 x413001 x413002 x413003 x424000 x424001 x424002 x424003))))) else (some false))))
def laws_FnExactRunToken.j1 : Nat → List Int → Int → Int → Bool → Bool → List Int → Int → Int → Bool → List Int → Int → Int → Bool → Option (Bool)
  | 0, _, _, _, _, _, _, _, _, _, _, _, _, _ => none
  | k + 1, x0, x1, x2, x8, x66, x413000, x413001, x413002, x413003, x424000, x424001, x424002, x424003 => if x66 = true then (some false) else ((laws_markTalkRun.f k x424000 x424001 x424002 x424003 1).bind fun bt432 => ((laws_heldTalkRun.f k bt432.2 x424001 x424002 x424003 1).bind fun t434 => (if t434 < 0 then (some false) else (if t434 = bt432.1 then ((laws_toIntS.f k x0).bind fun t435 => ((impl_RunToken.f k t435 x1 x2).bind fun bt438 => ((laws_eqTalkRun.f k bt438.1 bt438.2.1 bt438.2.2.1 bt438.2.2.2.1 x413000 x413001 x413002 x413003).bind fun t446 => (if t446 = true then (laws_FnExactRunToken.j2 k bt432.1 (bt438.2.2.2.2 != x8) bt432.2 x424001 x424002 x424003) else (laws_FnExactRunToken.j2 k bt432.1 true bt432.2 x424001 x424002 x424003))))) else (some false)))))
def laws_FnExactRunToken.j2 : Nat → Int → Bool → List Int → Int → Int → Bool → Option (Bool)
  | 0, _, _, _, _, _, _ => none
  | k + 1, x13, x94, x424000, x424001, x424002, x424003 => if x94 = true then (some false) else ((laws_heldTalkRun.f k x424000 x424001 x424002 x424003 1).bind fun t447 => (if t447 < 0 then (some false) else (if t447 = x13 then (some true) else (some false))))
end
def laws_FnExactRunToken.f (k : Nat) (l0 : List Int) (a1 : Int) (a2 : Int) : Option (Bool) := if (l0.length : Int) > 1048576 then (some true) else ((laws_toIntS.f k l0).bind fun t402 => ((spec_RunToken.f k t402 a1 a2).bind fun bt405 => ((laws_toIntS.f k l0).bind fun t413 => ((impl_RunToken.f k t413 a1 a2).bind fun bt416 => ((laws_eqTalkRun.f k bt416.1 bt416.2.1 bt416.2.2.1 bt416.2.2.2.1 bt405.1 bt405.2.1 bt405.2.2.1 bt405.2.2.2.1).bind fun t424 => (if t424 = true then (laws_FnExactRunToken.j0 k l0 a1 a2 bt405.2.2.2.2 t413 bt416.2.2.2.2 (bt416.2.2.2.2 != bt405.2.2.2.2) bt405.1 bt405.2.1 bt405.2.2.1 bt405.2.2.2.1 bt416.1 bt416.2.1 bt416.2.2.1 bt416.2.2.2.1) else (laws_FnExactRunToken.j0 k l0 a1 a2 bt405.2.2.2.2 t413 bt416.2.2.2.2 true bt405.1 bt405.2.1 bt405.2.2.1 bt405.2.2.2.1 bt416.1 bt416.2.1 bt416.2.2.1 bt416.2.2.2.1)))))))
theorem laws_FnExactRunToken.mono_l : ∀ k, (∀ y0 y1 y2 y3 y4 y5 y6 y7 y8 y9 y10 y11 y12 y13 y14, LeO (laws_FnExactRunToken.j0 k y0 y1 y2 y3 y4 y5 y6 y7 y8 y9 y10 y11 y12 y13 y14) (laws_FnExactRunToken.j0 (k + 1) y0 y1 y2 y3 y4 y5 y6 y7 y8 y9 y10 y11 y12 y13 y14)) ∧ (∀ y0 y1 y2 y3 y4 y5 y6 y7 y8 y9 y10 y11 y12, LeO (laws_FnExactRunToken.j1 k y0 y1 y2 y3 y4 y5 y6 y7 y8 y9 y10 y11 y12) (laws_FnExactRunToken.j1 (k + 1) y0 y1 y2 y3 y4 y5 y6 y7 y8 y9 y10 y11 y12)) ∧ (∀ y0 y1 y2 y3 y4 y5, LeO (laws_FnExactRunToken.j2 k y0 y1 y2 y3 y4 y5) (laws_FnExactRunToken.j2 (k + 1) y0 y1 y2 y3 y4 y5))
  | 0 => ⟨fun _ _ _ _ _ _ _ _ _ _ _ _ _ _ _ r h => by simp [laws_FnExactRunToken.j0] at h, fun _ _ _ _ _ _ _ _ _ _ _ _ _ r h => by simp [laws_FnExactRunToken.j1] at h, fun _ _ _ _ _ _ r h => by simp [laws_FnExactRunToken.j2] at h⟩
  | k + 1 => by
    obtain ⟨ih0, ih1, ih2⟩ := laws_FnExactRunToken.mono_l k
    refine ⟨?_, ?_, ?_⟩
    · intro y0 y1 y2 y3 y4 y5 y6 y7 y8 y9 y10 y11 y12 y13 y14
      unfold laws_FnExactRunToken.j0
      repeat' first
      | (with_reducible exact ih0 _ _ _ _ _ _ _ _ _ _ _ _ _ _ _)
      | (with_reducible exact ih1 _ _ _ _ _ _ _ _ _ _ _ _ _)
      | (with_reducible exact ih2 _ _ _ _ _ _)
      | (with_reducible exact impl_RunToken.mono _ _ _ _)
      | (with_reducible exact laws_eqIntS.mono _ _ _)
      | (with_reducible exact laws_eqTalkRun.mono _ _ _ _ _ _ _ _ _)
      | (with_reducible exact laws_heldTalkRun.mono _ _ _ _ _ _)
      | (with_reducible exact laws_markIntS.mono _ _ _)
      | (with_reducible exact laws_markTalkRun.mono _ _ _ _ _ _)
      | (with_reducible exact laws_toIntS.mono _ _)
      | (with_reducible exact spec_RunToken.mono _ _ _ _)
      | (with_reducible exact LeO.refl _)
      | (with_reducible exact LeO.none _)
      | (with_reducible refine LeO.ite ?_ ?_)
      | (with_reducible refine LeO.bind ?_ (fun _ => ?_))
      | exact ih0 _ _ _ _ _ _ _ _ _ _ _ _ _ _ _
      | exact ih1 _ _ _ _ _ _ _ _ _ _ _ _ _
      | exact ih2 _ _ _ _ _ _
      | exact impl_RunToken.mono _ _ _ _
      | exact laws_eqIntS.mono _ _ _
      | exact laws_eqTalkRun.mono _ _ _ _ _ _ _ _ _
      | exact laws_heldTalkRun.mono _ _ _ _ _ _
      | exact laws_markIntS.mono _ _ _
      | exact laws_markTalkRun.mono _ _ _ _ _ _
      | exact laws_toIntS.mono _ _
      | exact spec_RunToken.mono _ _ _ _
      | exact LeO.none _
      | refine LeO.ite ?_ ?_
      | refine LeO.bind ?_ (fun _ => ?_)
    · intro y0 y1 y2 y3 y4 y5 y6 y7 y8 y9 y10 y11 y12
      unfold laws_FnExactRunToken.j1
      repeat' first
      | (with_reducible exact ih0 _ _ _ _ _ _ _ _ _ _ _ _ _ _ _)
      | (with_reducible exact ih1 _ _ _ _ _ _ _ _ _ _ _ _ _)
      | (with_reducible exact ih2 _ _ _ _ _ _)
      | (with_reducible exact impl_RunToken.mono _ _ _ _)
      | (with_reducible exact laws_eqIntS.mono _ _ _)
      | (with_reducible exact laws_eqTalkRun.mono _ _ _ _ _ _ _ _ _)
      | (with_reducible exact laws_heldTalkRun.mono _ _ _ _ _ _)
      | (with_reducible exact laws_markIntS.mono _ _ _)
      | (with_reducible exact laws_markTalkRun.mono _ _ _ _ _ _)
      | (with_reducible exact laws_toIntS.mono _ _)
      | (with_reducible exact spec_RunToken.mono _ _ _ _)
      | (with_reducible exact LeO.refl _)
      | (with_reducible exact LeO.none _)
      | (with_reducible refine LeO.ite ?_ ?_)
      | (with_reducible refine LeO.bind ?_ (fun _ => ?_))
      | exact ih0 _ _ _ _ _ _ _ _ _ _ _ _ _ _ _
      | exact ih1 _ _ _ _ _ _ _ _ _ _ _ _ _
      | exact ih2 _ _ _ _ _ _
      | exact impl_RunToken.mono _ _ _ _
      | exact laws_eqIntS.mono _ _ _
      | exact laws_eqTalkRun.mono _ _ _ _ _ _ _ _ _
      | exact laws_heldTalkRun.mono _ _ _ _ _ _
      | exact laws_markIntS.mono _ _ _
      | exact laws_markTalkRun.mono _ _ _ _ _ _
      | exact laws_toIntS.mono _ _
      | exact spec_RunToken.mono _ _ _ _
      | exact LeO.none _
      | refine LeO.ite ?_ ?_
      | refine LeO.bind ?_ (fun _ => ?_)
    · intro y0 y1 y2 y3 y4 y5
      unfold laws_FnExactRunToken.j2
      repeat' first
      | (with_reducible exact ih0 _ _ _ _ _ _ _ _ _ _ _ _ _ _ _)
      | (with_reducible exact ih1 _ _ _ _ _ _ _ _ _ _ _ _ _)
      | (with_reducible exact ih2 _ _ _ _ _ _)
      | (with_reducible exact impl_RunToken.mono _ _ _ _)
      | (with_reducible exact laws_eqIntS.mono _ _ _)
      | (with_reducible exact laws_eqTalkRun.mono _ _ _ _ _ _ _ _ _)
      | (with_reducible exact laws_heldTalkRun.mono _ _ _ _ _ _)
      | (with_reducible exact laws_markIntS.mono _ _ _)
      | (with_reducible exact laws_markTalkRun.mono _ _ _ _ _ _)
      | (with_reducible exact laws_toIntS.mono _ _)
      | (with_reducible exact spec_RunToken.mono _ _ _ _)
      | (with_reducible exact LeO.refl _)
      | (with_reducible exact LeO.none _)
      | (with_reducible refine LeO.ite ?_ ?_)
      | (with_reducible refine LeO.bind ?_ (fun _ => ?_))
      | exact ih0 _ _ _ _ _ _ _ _ _ _ _ _ _ _ _
      | exact ih1 _ _ _ _ _ _ _ _ _ _ _ _ _
      | exact ih2 _ _ _ _ _ _
      | exact impl_RunToken.mono _ _ _ _
      | exact laws_eqIntS.mono _ _ _
      | exact laws_eqTalkRun.mono _ _ _ _ _ _ _ _ _
      | exact laws_heldTalkRun.mono _ _ _ _ _ _
      | exact laws_markIntS.mono _ _ _
      | exact laws_markTalkRun.mono _ _ _ _ _ _
      | exact laws_toIntS.mono _ _
      | exact spec_RunToken.mono _ _ _ _
      | exact LeO.none _
      | refine LeO.ite ?_ ?_
      | refine LeO.bind ?_ (fun _ => ?_)
theorem laws_FnExactRunToken.mono : ∀ a0 a1 a2 k, LeO (laws_FnExactRunToken.f k a0 a1 a2) (laws_FnExactRunToken.f (k + 1) a0 a1 a2) := by
  intro a0 a1 a2 k
  obtain ⟨ih0, ih1, ih2⟩ := laws_FnExactRunToken.mono_l k
  unfold laws_FnExactRunToken.f
  repeat' first
      | (with_reducible exact ih0 _ _ _ _ _ _ _ _ _ _ _ _ _ _ _)
      | (with_reducible exact ih1 _ _ _ _ _ _ _ _ _ _ _ _ _)
      | (with_reducible exact ih2 _ _ _ _ _ _)
      | (with_reducible exact impl_RunToken.mono _ _ _ _)
      | (with_reducible exact laws_eqIntS.mono _ _ _)
      | (with_reducible exact laws_eqTalkRun.mono _ _ _ _ _ _ _ _ _)
      | (with_reducible exact laws_heldTalkRun.mono _ _ _ _ _ _)
      | (with_reducible exact laws_markIntS.mono _ _ _)
      | (with_reducible exact laws_markTalkRun.mono _ _ _ _ _ _)
      | (with_reducible exact laws_toIntS.mono _ _)
      | (with_reducible exact spec_RunToken.mono _ _ _ _)
      | (with_reducible exact LeO.refl _)
      | (with_reducible exact LeO.none _)
      | (with_reducible refine LeO.ite ?_ ?_)
      | (with_reducible refine LeO.bind ?_ (fun _ => ?_))
      | exact ih0 _ _ _ _ _ _ _ _ _ _ _ _ _ _ _
      | exact ih1 _ _ _ _ _ _ _ _ _ _ _ _ _
      | exact ih2 _ _ _ _ _ _
      | exact impl_RunToken.mono _ _ _ _
      | exact laws_eqIntS.mono _ _ _
      | exact laws_eqTalkRun.mono _ _ _ _ _ _ _ _ _
      | exact laws_heldTalkRun.mono _ _ _ _ _ _
      | exact laws_markIntS.mono _ _ _
      | exact laws_markTalkRun.mono _ _ _ _ _ _
      | exact laws_toIntS.mono _ _
      | exact spec_RunToken.mono _ _ _ _
      | exact LeO.none _
      | refine LeO.ite ?_ ?_
      | refine LeO.bind ?_ (fun _ => ?_)
set_option maxHeartbeats 8000000 in
set_option maxRecDepth 100000 in
theorem laws_FnExactRunToken.calls (k : Nat) (A0 : Option Addr) (c0 : Nat) (l0 : List Int) (a1 : Int) (a2 : Int) (r : Bool) (w : World) (hr0 : Kd.C (Kd.int .i64) w A0 l0.length l0) (hc0 : l0.length ≤ c0) (h : laws_FnExactRunToken.f k l0 a1 a2 = some r) :
    Calls Try.prog 10 #[.slice A0 l0.length c0, .int .i64 a1, .int .i64 a2] w fun e w' => e = .returned (.bool r) ∧ Below w.heap.size w w' := by
  have hu38 := Try.underlying38
  have HR0 := Aside0.mk hr0
  have HC0 := Aside0.mk hc0
  clear hr0 hc0
  have HB := Aside0.mk (Below.refl w.heap.size w)
  have H : (if (l0.length : Int) > 1048576 then (some true) else ((laws_toIntS.f k l0).bind fun t402 => ((spec_RunToken.f k t402 a1 a2).bind fun bt405 => ((laws_toIntS.f k l0).bind fun t413 => ((impl_RunToken.f k t413 a1 a2).bind fun bt416 => ((laws_eqTalkRun.f k bt416.1 bt416.2.1 bt416.2.2.1 bt416.2.2.2.1 bt405.1 bt405.2.1 bt405.2.2.1 bt405.2.2.2.1).bind fun t424 => (if t424 = true then (laws_FnExactRunToken.j0 k l0 a1 a2 bt405.2.2.2.2 t413 bt416.2.2.2.2 (bt416.2.2.2.2 != bt405.2.2.2.2) bt405.1 bt405.2.1 bt405.2.2.1 bt405.2.2.2.1 bt416.1 bt416.2.1 bt416.2.2.1 bt416.2.2.2.1) else (laws_FnExactRunToken.j0 k l0 a1 a2 bt405.2.2.2.2 t413 bt416.2.2.2.2 true bt405.1 bt405.2.1 bt405.2.2.1 bt405.2.2.2.1 bt416.1 bt416.2.1 bt416.2.2.1 bt416.2.2.2.1)))))))) = some r := h
  clear h
  by_cases c4 : (l0.length : Int) > 1048576
  · rw [if_pos c4] at H
    have c4b0 : decide (1048576 < (l0.length : Int)) = true := decide_eq_true c4
    have c4b1 : decide (1048576 < l0.length) = true := decide_eq_true (by omega)
    clear c4
    obtain rfl := Option.some.inj H
    go_enter Try.func10, Try.ntmps10
    go_wp2
    go_ret
    exact ⟨by first | rfl | (simp [errW_none, errW_some] <;> rfl) | (simp [*, errW_none, errW_some] <;> rfl), by repeat (first | (with_reducible first | exact HB.out | apply below_alloc | apply pw_below_drewN | apply below_drew1) | exact HB.out)⟩
  · rw [if_neg c4] at H
    have c4b0 : decide (1048576 < (l0.length : Int)) = false := decide_eq_false c4
    have c4b1 : decide (1048576 < l0.length) = false := decide_eq_false (by omega)
    clear c4
    replace H := Option.bind_eq_some_iff.mp H
    obtain ⟨t402, A50, H⟩ := H
    replace H : ((spec_RunToken.f k t402 a1 a2).bind fun bt405 => ((laws_toIntS.f k l0).bind fun t413 => ((impl_RunToken.f k t413 a1 a2).bind fun bt416 => ((laws_eqTalkRun.f k bt416.1 bt416.2.1 bt416.2.2.1 bt416.2.2.2.1 bt405.1 bt405.2.1 bt405.2.2.1 bt405.2.2.2.1).bind fun t424 => (if t424 = true then (laws_FnExactRunToken.j0 k l0 a1 a2 bt405.2.2.2.2 t413 bt416.2.2.2.2 (bt416.2.2.2.2 != bt405.2.2.2.2) bt405.1 bt405.2.1 bt405.2.2.1 bt405.2.2.2.1 bt416.1 bt416.2.1 bt416.2.2.1 bt416.2.2.2.1) else (laws_FnExactRunToken.j0 k l0 a1 a2 bt405.2.2.2.2 t413 bt416.2.2.2.2 true bt405.1 bt405.2.1 bt405.2.2.1 bt405.2.2.2.1 bt416.1 bt416.2.1 bt416.2.2.1 bt416.2.2.2.1)))))) = some r := H
    have A5 := Aside0.mk A50
    clear A50
    replace H := Option.bind_eq_some_iff.mp H
    obtain ⟨⟨t405, t408, t409, t410, t411⟩, A60, H⟩ := H
    replace H : ((laws_toIntS.f k l0).bind fun t413 => ((impl_RunToken.f k t413 a1 a2).bind fun bt416 => ((laws_eqTalkRun.f k bt416.1 bt416.2.1 bt416.2.2.1 bt416.2.2.2.1 t405 t408 t409 t410).bind fun t424 => (if t424 = true then (laws_FnExactRunToken.j0 k l0 a1 a2 t411 t413 bt416.2.2.2.2 (bt416.2.2.2.2 != t411) t405 t408 t409 t410 bt416.1 bt416.2.1 bt416.2.2.1 bt416.2.2.2.1) else (laws_FnExactRunToken.j0 k l0 a1 a2 t411 t413 bt416.2.2.2.2 true t405 t408 t409 t410 bt416.1 bt416.2.1 bt416.2.2.1 bt416.2.2.2.1))))) = some r := H
    have A6 := Aside0.mk A60
    clear A60
    replace H := Option.bind_eq_some_iff.mp H
    obtain ⟨t413, A70, H⟩ := H
    replace H : ((impl_RunToken.f k t413 a1 a2).bind fun bt416 => ((laws_eqTalkRun.f k bt416.1 bt416.2.1 bt416.2.2.1 bt416.2.2.2.1 t405 t408 t409 t410).bind fun t424 => (if t424 = true then (laws_FnExactRunToken.j0 k l0 a1 a2 t411 t413 bt416.2.2.2.2 (bt416.2.2.2.2 != t411) t405 t408 t409 t410 bt416.1 bt416.2.1 bt416.2.2.1 bt416.2.2.2.1) else (laws_FnExactRunToken.j0 k l0 a1 a2 t411 t413 bt416.2.2.2.2 true t405 t408 t409 t410 bt416.1 bt416.2.1 bt416.2.2.1 bt416.2.2.2.1)))) = some r := H
    have A7 := Aside0.mk A70
    clear A70
    replace H := Option.bind_eq_some_iff.mp H
    obtain ⟨⟨t416, t419, t420, t421, t422⟩, A80, H⟩ := H
    replace H : ((laws_eqTalkRun.f k t416 t419 t420 t421 t405 t408 t409 t410).bind fun t424 => (if t424 = true then (laws_FnExactRunToken.j0 k l0 a1 a2 t411 t413 t422 (t422 != t411) t405 t408 t409 t410 t416 t419 t420 t421) else (laws_FnExactRunToken.j0 k l0 a1 a2 t411 t413 t422 true t405 t408 t409 t410 t416 t419 t420 t421))) = some r := H
    have A8 := Aside0.mk A80
    clear A80
    have HC9 := Aside0.mk H
    clear H
    go_enter Try.func10, Try.ntmps10
    go_upto_region 6 with (first | ((with_reducible refine gate_callee (f := 20) rfl ?_); refine goesL_ (some 22) rfl rfl Try.func20 (by kernel_rfl) rfl #[.slice A0 l0.length c0] rfl (by (try simp only [List.map_toArray, List.map_cons, List.map_nil]); first | done | rfl | (simp only [List.length_drop, List.length_take]; rfl)) ?_; (with_reducible refine (laws_toIntS.calls k _ _ l0 t402 _ ?side1 ?side2 A5.out).mono ?_); (case side1 => repeat (first | exact HR0.out | (with_reducible refine Kd.C_alloc ?_ _) | (with_reducible refine Kd.C_drewN ?_ _) | (with_reducible refine Kd.C_drew ?_))); (case side2 => exact HC0.out); rintro e w10 ⟨v403, rfl, ho0, hb⟩; refine ⟨_, rfl, ?_⟩; have n0_ := Aside0.mk (Kd.R_lower ho0 (below_size (by repeat (first | (with_reducible first | exact HB.out | apply below_alloc | apply pw_below_drewN | apply below_drew1) | exact HB.out)))); have n1_ := Aside0.mk (below_step (by repeat (first | (with_reducible first | exact HB.out | apply below_alloc | apply pw_below_drewN | apply below_drew1) | exact HB.out)) hb); clear HB; have HO404 := n0_; have HB := n1_; clear n0_ n1_; (try clear hb); (try clear hb2); (try clear hk); (try clear hi); (try clear ho0); obtain ⟨Ao11, co11, eo11⟩ := Kd.R_slice HO404.out; subst eo11) | ((with_reducible refine gate_callee (f := 31) rfl ?_); refine goesL_ (some 25) rfl rfl Try.func31 (by kernel_rfl) rfl #[.slice Ao11 t402.length co11, .int .i64 a1, .int .i64 a2] rfl (by (try simp only [List.map_toArray, List.map_cons, List.map_nil]); first | done | rfl | (simp only [List.length_drop, List.length_take]; rfl)) ?_; (with_reducible refine (spec_RunToken.calls k _ _ t402 a1 a2 t405 t408 t409 t410 t411 _ ?side1 ?side2 A6.out).mono ?_); (case side1 => repeat (first | exact (Kd.R_reads' HO404.out).2.2 | (with_reducible refine Kd.C_alloc ?_ _) | (with_reducible refine Kd.C_drewN ?_ _) | (with_reducible refine Kd.C_drew ?_))); (case side2 => exact (Kd.R_reads' HO404.out).2.1); rintro e w12 ⟨v406, rfl, ho0, hb⟩; refine ⟨_, rfl, ?_⟩; have n0_ := Aside0.mk (Kd.R_elder' (by (with_reducible repeat (first | apply Kd.R_alloc | apply Kd.R_drewN | apply Kd.R_drew)); exact HO404.out) (Kd.R_base ho0) hb); have n1_ := Aside0.mk (Kd.R_lower (Kd.R_new' ho0 (Kd.R_lt (by (with_reducible repeat (first | apply Kd.R_alloc | apply Kd.R_drewN | apply Kd.R_drew)); exact HO404.out))) (below_size (by repeat (first | (with_reducible first | exact HB.out | apply below_alloc | apply pw_below_drewN | apply below_drew1) | exact HB.out)))); have n2_ := Aside0.mk (below_step (by repeat (first | (with_reducible first | exact HB.out | apply below_alloc | apply pw_below_drewN | apply below_drew1) | exact HB.out)) hb); clear HO404; clear HB; have HO404 := n0_; have HO407 := n1_; have HB := n2_; clear n0_ n1_ n2_; (try clear hb); (try clear hb2); (try clear hk); (try clear hi); (try clear ho0)) | ((with_reducible refine gate_dst (N := 7) rfl ?_); refine box_event ?hg (N := 7) ?hd (cs := #[.slice none 0 0, .int .i64 0, .int .i64 0, .bool false]) (t := 38) ?hr ?_; (case hd => rfl); (case hg => rfl); (case hr => first | (go_simp; done) | (go_simp; rfl)); intro gb412 hg w13 hbox hb; have n0_ := Aside0.mk (Kd.R_below (by (with_reducible repeat (first | apply Kd.R_alloc | apply Kd.R_drewN | apply Kd.R_drew)); exact HO404.out) hb); have n1_ := Aside0.mk (Kd.R_below (by (with_reducible repeat (first | apply Kd.R_alloc | apply Kd.R_drewN | apply Kd.R_drew)); exact HO407.out) hb); have n2_ := Aside0.mk (below_step (by repeat (first | (with_reducible first | exact HB.out | apply below_alloc | apply pw_below_drewN | apply below_drew1) | exact HB.out)) hb); have n3_ := Aside0.mk (hbox); have n4_ := Aside0.mk ((by rw [hg]; exact (below_size (by repeat (first | (with_reducible first | exact HB.out | apply below_alloc | apply pw_below_drewN | apply below_drew1) | exact HB.out))) : w.heap.size ≤ gb412)); have n5_ := Aside0.mk ((by rw [hg]; exact (below_size (by repeat (first | (with_reducible first | exact HB.out | apply below_alloc | apply pw_below_drewN | apply below_drew1) | exact HB.out))) : w.heap.size ≤ gb412)); clear HO404; clear HO407; clear HB; have HO404 := n0_; have HO407 := n1_; have HB := n2_; have BK412 := n3_; have GW412 := n4_; have GE412 := n5_; clear n0_ n1_ n2_ n3_ n4_ n5_; clear hb hbox hg; obtain ⟨Ao14, co14, eo14⟩ := Kd.R_slice HO407.out; subst eo14; have hcz15_0 : w13.cell? ⟨gb412, 0, none⟩ = some (.slice none 0 0) := (blk_cell BK412.out 0).trans rfl; have hcz15_1 : w13.cell? ⟨gb412, 1, none⟩ = some (.int .i64 0) := (blk_cell BK412.out 1).trans rfl; have hcz15_2 : w13.cell? ⟨gb412, 2, none⟩ = some (.int .i64 0) := (blk_cell BK412.out 2).trans rfl; have hcz15_3 : w13.cell? ⟨gb412, 3, none⟩ = some (.bool false) := (blk_cell BK412.out 3).trans rfl; have hfz15_0 := blk_frozen BK412.out 0; have hfz15_1 := blk_frozen BK412.out 1; have hfz15_2 := blk_frozen BK412.out 2; have hfz15_3 := blk_frozen BK412.out 3) | ((with_reducible refine gate_callee (f := 20) rfl ?_); refine goesL_ (some 29) rfl rfl Try.func20 (by kernel_rfl) rfl #[.slice A0 l0.length c0] rfl (by (try simp only [List.map_toArray, List.map_cons, List.map_nil]); first | done | rfl | (simp only [List.length_drop, List.length_take]; rfl)) ?_; (with_reducible refine (laws_toIntS.calls k _ _ l0 t413 _ ?side1 ?side2 A7.out).mono ?_); (case side1 => exact Kd.C_below HR0.out (by repeat (first | (with_reducible first | exact HB.out | apply below_alloc | apply pw_below_drewN | apply below_drew1 | refine below_set ?_ GE412.out) | exact HB.out))); (case side2 => exact HC0.out); rintro e w16 ⟨v414, rfl, ho0, hb⟩; refine ⟨_, rfl, ?_⟩; have n0_ := Aside0.mk (Kd.R_elder' (by (with_reducible repeat (first | apply Kd.R_alloc | apply Kd.R_drewN | apply Kd.R_drew)); exact (Kd.R_mono (Kd.R_far (p := ⟨gb412, 3, none⟩) (Kd.R_far (p := ⟨gb412, 2, none⟩) (Kd.R_far (p := ⟨gb412, 1, none⟩) (Kd.R_far (p := ⟨gb412, 0, none⟩) (Kd.R_types HO404.out BK412.out (by decide)) (fun _ hk => hk.2) (.slice Ao14 t405.length co14)) (fun _ hk => hk.2) (.int .i64 t408)) (fun _ hk => hk.2) (.int .i64 t409)) (fun _ hk => hk.2) (.bool t410)) (fun _ h_ => h_.1))) (Kd.R_base ho0) hb); have n1_ := Aside0.mk (Kd.R_elder' (by (with_reducible repeat (first | apply Kd.R_alloc | apply Kd.R_drewN | apply Kd.R_drew)); exact (Kd.R_mono (Kd.R_far (p := ⟨gb412, 3, none⟩) (Kd.R_far (p := ⟨gb412, 2, none⟩) (Kd.R_far (p := ⟨gb412, 1, none⟩) (Kd.R_far (p := ⟨gb412, 0, none⟩) (Kd.R_types HO407.out BK412.out (by decide)) (fun _ hk => hk.2) (.slice Ao14 t405.length co14)) (fun _ hk => hk.2) (.int .i64 t408)) (fun _ hk => hk.2) (.int .i64 t409)) (fun _ hk => hk.2) (.bool t410)) (fun _ h_ => h_.1))) (Kd.R_base ho0) hb); have n2_ := Aside0.mk (Kd.R_lower (Kd.R_new' (Kd.R_new' ho0 (Kd.R_lt (by (with_reducible repeat (first | apply Kd.R_alloc | apply Kd.R_drewN | apply Kd.R_drew)); exact (Kd.R_mono (Kd.R_far (p := ⟨gb412, 3, none⟩) (Kd.R_far (p := ⟨gb412, 2, none⟩) (Kd.R_far (p := ⟨gb412, 1, none⟩) (Kd.R_far (p := ⟨gb412, 0, none⟩) (Kd.R_types HO404.out BK412.out (by decide)) (fun _ hk => hk.2) (.slice Ao14 t405.length co14)) (fun _ hk => hk.2) (.int .i64 t408)) (fun _ hk => hk.2) (.int .i64 t409)) (fun _ hk => hk.2) (.bool t410)) (fun _ h_ => h_.1))))) (Kd.R_lt (by (with_reducible repeat (first | apply Kd.R_alloc | apply Kd.R_drewN | apply Kd.R_drew)); exact (Kd.R_mono (Kd.R_far (p := ⟨gb412, 3, none⟩) (Kd.R_far (p := ⟨gb412, 2, none⟩) (Kd.R_far (p := ⟨gb412, 1, none⟩) (Kd.R_far (p := ⟨gb412, 0, none⟩) (Kd.R_types HO407.out BK412.out (by decide)) (fun _ hk => hk.2) (.slice Ao14 t405.length co14)) (fun _ hk => hk.2) (.int .i64 t408)) (fun _ hk => hk.2) (.int .i64 t409)) (fun _ hk => hk.2) (.bool t410)) (fun _ h_ => h_.1))))) (below_size (by repeat (first | (with_reducible first | exact HB.out | apply below_alloc | apply pw_below_drewN | apply below_drew1 | refine below_set ?_ GE412.out) | exact HB.out)))); have n3_ := Aside0.mk (blk_below (g := gb412) (o := .cells #[.slice Ao14 t405.length co14, .int .i64 t408, .int .i64 t409, .bool t410] 38 (0, 0)) (by (with_reducible repeat (first | refine blk_drewN ?_ _ | refine blk_drew ?_ | refine blk_alloc ?_ _)); refine blk_put (cs := #[.slice Ao14 t405.length co14, .int .i64 t408, .int .i64 t409, .bool false]) ?_ 3 _ rfl; (with_reducible repeat (first | refine blk_drewN ?_ _ | refine blk_drew ?_ | refine blk_alloc ?_ _)); refine blk_put (cs := #[.slice Ao14 t405.length co14, .int .i64 t408, .int .i64 0, .bool false]) ?_ 2 _ rfl; (with_reducible repeat (first | refine blk_drewN ?_ _ | refine blk_drew ?_ | refine blk_alloc ?_ _)); refine blk_put (cs := #[.slice Ao14 t405.length co14, .int .i64 0, .int .i64 0, .bool false]) ?_ 1 _ rfl; (with_reducible repeat (first | refine blk_drewN ?_ _ | refine blk_drew ?_ | refine blk_alloc ?_ _)); refine blk_put (cs := #[.slice none 0 0, .int .i64 0, .int .i64 0, .bool false]) ?_ 0 _ rfl; (with_reducible repeat (first | refine blk_drewN ?_ _ | refine blk_drew ?_ | refine blk_alloc ?_ _)); exact BK412.out) hb); have n4_ := Aside0.mk (below_step (by repeat (first | (with_reducible first | exact HB.out | apply below_alloc | apply pw_below_drewN | apply below_drew1 | refine below_set ?_ GE412.out) | exact HB.out)) hb); clear HO404; clear HO407; clear BK412; clear HB; have HO404 := n0_; have HO407 := n1_; have HO415 := n2_; have BK412 := n3_; have HB := n4_; clear n0_ n1_ n2_ n3_ n4_; (try clear hb); (try clear hb2); (try clear hk); (try clear hi); (try clear ho0); obtain ⟨Ao17, co17, eo17⟩ := Kd.R_slice HO415.out; subst eo17) | ((with_reducible refine gate_callee (f := 30) rfl ?_); refine goesL_ (some 34) rfl rfl Try.func30 (by kernel_rfl) rfl #[.slice Ao17 t413.length co17, .int .i64 a1, .int .i64 a2] rfl (by (try simp only [List.map_toArray, List.map_cons, List.map_nil]); first | done | rfl | (simp only [List.length_drop, List.length_take]; rfl)) ?_; (with_reducible refine (impl_RunToken.calls k _ _ t413 a1 a2 t416 t419 t420 t421 t422 _ ?side1 ?side2 A8.out).mono ?_); (case side1 => repeat (first | exact (Kd.R_reads' HO415.out).2.2 | (with_reducible refine Kd.C_alloc ?_ _) | (with_reducible refine Kd.C_drewN ?_ _) | (with_reducible refine Kd.C_drew ?_))); (case side2 => exact (Kd.R_reads' HO415.out).2.1); rintro e w18 ⟨v417, rfl, ho0, hb⟩; refine ⟨_, rfl, ?_⟩; have n0_ := Aside0.mk (Kd.R_elder' (by (with_reducible repeat (first | apply Kd.R_alloc | apply Kd.R_drewN | apply Kd.R_drew)); exact HO404.out) (Kd.R_base ho0) hb); have n1_ := Aside0.mk (Kd.R_elder' (by (with_reducible repeat (first | apply Kd.R_alloc | apply Kd.R_drewN | apply Kd.R_drew)); exact HO407.out) (Kd.R_base ho0) hb); have n2_ := Aside0.mk (Kd.R_elder' (by (with_reducible repeat (first | apply Kd.R_alloc | apply Kd.R_drewN | apply Kd.R_drew)); exact HO415.out) (Kd.R_base ho0) hb); have n3_ := Aside0.mk (Kd.R_lower (Kd.R_new' (Kd.R_new' (Kd.R_new' ho0 (Kd.R_lt (by (with_reducible repeat (first | apply Kd.R_alloc | apply Kd.R_drewN | apply Kd.R_drew)); exact HO404.out))) (Kd.R_lt (by (with_reducible repeat (first | apply Kd.R_alloc | apply Kd.R_drewN | apply Kd.R_drew)); exact HO407.out))) (Kd.R_lt (by (with_reducible repeat (first | apply Kd.R_alloc | apply Kd.R_drewN | apply Kd.R_drew)); exact HO415.out))) (below_size (by repeat (first | (with_reducible first | exact HB.out | apply below_alloc | apply pw_below_drewN | apply below_drew1 | refine below_set ?_ GE412.out) | exact HB.out)))); have n4_ := Aside0.mk (blk_below (g := gb412) (o := .cells #[.slice Ao14 t405.length co14, .int .i64 t408, .int .i64 t409, .bool t410] 38 (0, 0)) (by (with_reducible repeat (first | refine blk_drewN ?_ _ | refine blk_drew ?_ | refine blk_alloc ?_ _)); exact BK412.out) hb); have n5_ := Aside0.mk (below_step (by repeat (first | (with_reducible first | exact HB.out | apply below_alloc | apply pw_below_drewN | apply below_drew1 | refine below_set ?_ GE412.out) | exact HB.out)) hb); clear HO404; clear HO407; clear HO415; clear BK412; clear HB; have HO404 := n0_; have HO407 := n1_; have HO415 := n2_; have HO418 := n3_; have BK412 := n4_; have HB := n5_; clear n0_ n1_ n2_ n3_ n4_ n5_; (try clear hb); (try clear hb2); (try clear hk); (try clear hi); (try clear ho0)) | ((with_reducible refine gate_dst (N := 10) rfl ?_); refine box_event ?hg (N := 10) ?hd (cs := #[.slice none 0 0, .int .i64 0, .int .i64 0, .bool false]) (t := 38) ?hr ?_; (case hd => rfl); (case hg => rfl); (case hr => first | (go_simp; done) | (go_simp; rfl)); intro gb423 hg w19 hbox hb; have n0_ := Aside0.mk (Kd.R_below (by (with_reducible repeat (first | apply Kd.R_alloc | apply Kd.R_drewN | apply Kd.R_drew)); exact HO404.out) hb); have n1_ := Aside0.mk (Kd.R_below (by (with_reducible repeat (first | apply Kd.R_alloc | apply Kd.R_drewN | apply Kd.R_drew)); exact HO407.out) hb); have n2_ := Aside0.mk (Kd.R_below (by (with_reducible repeat (first | apply Kd.R_alloc | apply Kd.R_drewN | apply Kd.R_drew)); exact HO415.out) hb); have n3_ := Aside0.mk (Kd.R_below (by (with_reducible repeat (first | apply Kd.R_alloc | apply Kd.R_drewN | apply Kd.R_drew)); exact HO418.out) hb); have n4_ := Aside0.mk (blk_below (g := gb412) (o := .cells #[.slice Ao14 t405.length co14, .int .i64 t408, .int .i64 t409, .bool t410] 38 (0, 0)) (by (with_reducible repeat (first | refine blk_drewN ?_ _ | refine blk_drew ?_ | refine blk_alloc ?_ _)); exact BK412.out) hb); have n5_ := Aside0.mk (below_step (by repeat (first | (with_reducible first | exact HB.out | apply below_alloc | apply pw_below_drewN | apply below_drew1 | refine below_set ?_ GE412.out) | exact HB.out)) hb); have n6_ := Aside0.mk (hbox); have n7_ := Aside0.mk ((by rw [hg]; exact (below_size (by repeat (first | (with_reducible first | exact HB.out | apply below_alloc | apply pw_below_drewN | apply below_drew1 | refine below_set ?_ GE412.out) | exact HB.out))) : w.heap.size ≤ gb423)); have n8_ := Aside0.mk ((by rw [hg]; exact (below_size (by repeat (first | (with_reducible first | exact HB.out | apply below_alloc | apply pw_below_drewN | apply below_drew1 | refine below_set ?_ GE412.out) | exact HB.out))) : w.heap.size ≤ gb423)); have n9_ := Aside0.mk ((by rw [hg]; exact Nat.ne_of_lt (blk_lt (g := gb412) (o := .cells #[.slice Ao14 t405.length co14, .int .i64 t408, .int .i64 t409, .bool t410] 38 (0, 0)) (by (with_reducible repeat (first | refine blk_drewN ?_ _ | refine blk_drew ?_ | refine blk_alloc ?_ _)); exact BK412.out)) : gb412 ≠ gb423)); have n10_ := Aside0.mk ((by rw [hg]; exact Nat.ne_of_gt (blk_lt (g := gb412) (o := .cells #[.slice Ao14 t405.length co14, .int .i64 t408, .int .i64 t409, .bool t410] 38 (0, 0)) (by (with_reducible repeat (first | refine blk_drewN ?_ _ | refine blk_drew ?_ | refine blk_alloc ?_ _)); exact BK412.out)) : gb423 ≠ gb412)); clear HO404; clear HO407; clear HO415; clear HO418; clear BK412; clear HB; have HO404 := n0_; have HO407 := n1_; have HO415 := n2_; have HO418 := n3_; have BK412 := n4_; have HB := n5_; have BK423 := n6_; have GW423 := n7_; have GE423 := n8_; have NB412_423 := n9_; have NB423_412 := n10_; clear n0_ n1_ n2_ n3_ n4_ n5_ n6_ n7_ n8_ n9_ n10_; clear hb hbox hg; obtain ⟨Ao20, co20, eo20⟩ := Kd.R_slice HO418.out; subst eo20; have hnb21 := NB423_412.out; have hnc21 := NB412_423.out; have hcz22_0 : w19.cell? ⟨gb423, 0, none⟩ = some (.slice none 0 0) := (blk_cell BK423.out 0).trans rfl; have hcz22_1 : w19.cell? ⟨gb423, 1, none⟩ = some (.int .i64 0) := (blk_cell BK423.out 1).trans rfl; have hcz22_2 : w19.cell? ⟨gb423, 2, none⟩ = some (.int .i64 0) := (blk_cell BK423.out 2).trans rfl; have hcz22_3 : w19.cell? ⟨gb423, 3, none⟩ = some (.bool false) := (blk_cell BK423.out 3).trans rfl; have hfz22_0 := blk_frozen BK423.out 0; have hfz22_1 := blk_frozen BK423.out 1; have hfz22_2 := blk_frozen BK423.out 2; have hfz22_3 := blk_frozen BK423.out 3))
    (try simp only [Act.put, List.setIfInBounds_toArray, List.set_cons_zero, List.set_cons_succ])
    go_cut [45] (fun v45 wc => ∃ (kq : Nat) (x45_8 : Bool), v45 = .bool x45_8 ∧ Aside0 (laws_FnExactRunToken.j0 kq l0 a1 a2 t411 t413 t422 x45_8 t405 t408 t409 t410 t416 t419 t420 t421 = some r) ∧ Aside0 (kq ≤ k) ∧ Aside0 (Kd.R (Kd.int .i64) 3 wc w.heap.size (fun k_ => some k_ ≠ ((.slice Ao14 t405.length co14) : Value).ownBlock ∧ some k_ ≠ ((.slice Ao20 t416.length co20) : Value).ownBlock) (.slice Ao17 t413.length co17) t413) ∧ Aside0 (Kd.R (Kd.int .i64) 3 wc w.heap.size (fun k_ => some k_ ≠ ((.slice Ao17 t413.length co17) : Value).ownBlock ∧ some k_ ≠ ((.slice Ao20 t416.length co20) : Value).ownBlock) (.slice Ao14 t405.length co14) t405) ∧ Aside0 (Kd.R (Kd.int .i64) 3 wc w.heap.size (fun k_ => some k_ ≠ ((.slice Ao17 t413.length co17) : Value).ownBlock ∧ some k_ ≠ ((.slice Ao14 t405.length co14) : Value).ownBlock) (.slice Ao20 t416.length co20) t416) ∧ Aside0 (wc.heap[gb412]? = some (.cells #[(.slice Ao14 t405.length co14), .int .i64 t408, .int .i64 t409, .bool t410] 38 (0, 0))) ∧ Aside0 (wc.heap[gb423]? = some (.cells #[(.slice Ao20 t416.length co20), .int .i64 t419, .int .i64 t420, .bool t421] 38 (0, 0))) ∧ Aside0 (Below w.heap.size w wc))
    case first =>
      have H := HC9.out
      clear HC9
      replace H := Option.bind_eq_some_iff.mp H
      obtain ⟨t424, A230, H⟩ := H
      replace H : (if t424 = true then (laws_FnExactRunToken.j0 k l0 a1 a2 t411 t413 t422 (t422 != t411) t405 t408 t409 t410 t416 t419 t420 t421) else (laws_FnExactRunToken.j0 k l0 a1 a2 t411 t413 t422 true t405 t408 t409 t410 t416 t419 t420 t421)) = some r := H
      have A23 := Aside0.mk A230
      clear A230
      by_cases c24 : t424 = true
      · subst c24
        have H1 : (laws_FnExactRunToken.j0 k l0 a1 a2 t411 t413 t422 (t422 != t411) t405 t408 t409 t410 t416 t419 t420 t421) = some r := by rw [if_pos rfl] at H; exact H
        clear H
        have H := H1
        clear H1
        have H' := Aside0.mk H
        clear H
        have hnb25 := NB423_412.out
        have hnc25 := NB412_423.out
        have hcz26_0 : w19.cell? ⟨gb423, 0, none⟩ = some (.slice none 0 0) := (blk_cell BK423.out 0).trans rfl
        have hcz26_1 : w19.cell? ⟨gb423, 1, none⟩ = some (.int .i64 0) := (blk_cell BK423.out 1).trans rfl
        have hcz26_2 : w19.cell? ⟨gb423, 2, none⟩ = some (.int .i64 0) := (blk_cell BK423.out 2).trans rfl
        have hcz26_3 : w19.cell? ⟨gb423, 3, none⟩ = some (.bool false) := (blk_cell BK423.out 3).trans rfl
        have hfz26_0 := blk_frozen BK423.out 0
        have hfz26_1 := blk_frozen BK423.out 1
        have hfz26_2 := blk_frozen BK423.out 2
        have hfz26_3 := blk_frozen BK423.out 3
        have hcz27_0 : w19.cell? ⟨gb412, 0, none⟩ = some (.slice Ao14 t405.length co14) := (blk_cell BK412.out 0).trans rfl
        have hcz27_1 : w19.cell? ⟨gb412, 1, none⟩ = some (.int .i64 t408) := (blk_cell BK412.out 1).trans rfl
        have hcz27_2 : w19.cell? ⟨gb412, 2, none⟩ = some (.int .i64 t409) := (blk_cell BK412.out 2).trans rfl
        have hcz27_3 : w19.cell? ⟨gb412, 3, none⟩ = some (.bool t410) := (blk_cell BK412.out 3).trans rfl
        have hfz27_0 := blk_frozen BK412.out 0
        have hfz27_1 := blk_frozen BK412.out 1
        have hfz27_2 := blk_frozen BK412.out 2
        have hfz27_3 := blk_frozen BK412.out 3
        go_wp2_with (first | ((with_reducible refine gate_callee (f := 35) rfl ?_); refine goesL_ (some 39) rfl rfl Try.func35 (by kernel_rfl) rfl #[.agg #[.slice Ao20 t416.length co20, .int .i64 t419, .int .i64 t420, .bool t421], .agg #[.slice Ao14 t405.length co14, .int .i64 t408, .int .i64 t409, .bool t410]] rfl (by (try simp only [List.map_toArray, List.map_cons, List.map_nil]); first | done | rfl | (simp only [List.length_drop, List.length_take]; rfl)) ?_; (with_reducible refine (laws_eqTalkRun.calls k _ _ t416 t419 t420 t421 _ _ t405 t408 t409 t410 true _ ?side1 ?side2 ?side3 ?side4 A23.out).mono ?_); (case side1 => refine (Kd.R_reads' (e := 3) (base := w.heap.size) (ok := fun k_ => (((True ∧ some k_ ≠ (.slice Ao11 t402.length co11 : Value).ownBlock) ∧ some k_ ≠ (.slice Ao14 t405.length co14 : Value).ownBlock) ∧ some k_ ≠ (.slice Ao17 t413.length co17 : Value).ownBlock)) (n := t416.length) (c := co20) ?_).2.2; exact (by (with_reducible repeat (first | apply Kd.R_alloc | apply Kd.R_drewN | apply Kd.R_drew)); exact (Kd.R_mono (Kd.R_far (p := ⟨gb423, 3, none⟩) (Kd.R_far (p := ⟨gb423, 2, none⟩) (Kd.R_far (p := ⟨gb423, 1, none⟩) (Kd.R_far (p := ⟨gb423, 0, none⟩) (Kd.R_types HO418.out BK423.out (by decide)) (fun _ hk => hk.2) (.slice Ao20 t416.length co20)) (fun _ hk => hk.2) (.int .i64 t419)) (fun _ hk => hk.2) (.int .i64 t420)) (fun _ hk => hk.2) (.bool t421)) (fun _ h_ => h_.1)))); (case side2 => exact (Kd.R_reads' HO418.out).2.1); (case side3 => refine (Kd.R_reads' (e := 3) (base := w.heap.size) (ok := fun k_ => (((True ∧ some k_ ≠ (.slice Ao11 t402.length co11 : Value).ownBlock) ∧ some k_ ≠ (.slice Ao17 t413.length co17 : Value).ownBlock) ∧ some k_ ≠ (.slice Ao20 t416.length co20 : Value).ownBlock)) (n := t405.length) (c := co14) ?_).2.2; exact (by (with_reducible repeat (first | apply Kd.R_alloc | apply Kd.R_drewN | apply Kd.R_drew)); exact (Kd.R_mono (Kd.R_far (p := ⟨gb423, 3, none⟩) (Kd.R_far (p := ⟨gb423, 2, none⟩) (Kd.R_far (p := ⟨gb423, 1, none⟩) (Kd.R_far (p := ⟨gb423, 0, none⟩) (Kd.R_types HO407.out BK423.out (by decide)) (fun _ hk => hk.2) (.slice Ao20 t416.length co20)) (fun _ hk => hk.2) (.int .i64 t419)) (fun _ hk => hk.2) (.int .i64 t420)) (fun _ hk => hk.2) (.bool t421)) (fun _ h_ => h_.1)))); (case side4 => exact (Kd.R_reads' HO407.out).2.1); rintro e w28 ⟨rfl, hb⟩; refine ⟨_, rfl, ?_⟩; have n0_ := Aside0.mk (Kd.R_below (by (with_reducible repeat (first | apply Kd.R_alloc | apply Kd.R_drewN | apply Kd.R_drew)); exact (Kd.R_mono (Kd.R_far (p := ⟨gb423, 3, none⟩) (Kd.R_far (p := ⟨gb423, 2, none⟩) (Kd.R_far (p := ⟨gb423, 1, none⟩) (Kd.R_far (p := ⟨gb423, 0, none⟩) (Kd.R_types HO404.out BK423.out (by decide)) (fun _ hk => hk.2) (.slice Ao20 t416.length co20)) (fun _ hk => hk.2) (.int .i64 t419)) (fun _ hk => hk.2) (.int .i64 t420)) (fun _ hk => hk.2) (.bool t421)) (fun _ h_ => h_.1))) hb); have n1_ := Aside0.mk (Kd.R_below (by (with_reducible repeat (first | apply Kd.R_alloc | apply Kd.R_drewN | apply Kd.R_drew)); exact (Kd.R_mono (Kd.R_far (p := ⟨gb423, 3, none⟩) (Kd.R_far (p := ⟨gb423, 2, none⟩) (Kd.R_far (p := ⟨gb423, 1, none⟩) (Kd.R_far (p := ⟨gb423, 0, none⟩) (Kd.R_types HO407.out BK423.out (by decide)) (fun _ hk => hk.2) (.slice Ao20 t416.length co20)) (fun _ hk => hk.2) (.int .i64 t419)) (fun _ hk => hk.2) (.int .i64 t420)) (fun _ hk => hk.2) (.bool t421)) (fun _ h_ => h_.1))) hb); have n2_ := Aside0.mk (Kd.R_below (by (with_reducible repeat (first | apply Kd.R_alloc | apply Kd.R_drewN | apply Kd.R_drew)); exact (Kd.R_mono (Kd.R_far (p := ⟨gb423, 3, none⟩) (Kd.R_far (p := ⟨gb423, 2, none⟩) (Kd.R_far (p := ⟨gb423, 1, none⟩) (Kd.R_far (p := ⟨gb423, 0, none⟩) (Kd.R_types HO415.out BK423.out (by decide)) (fun _ hk => hk.2) (.slice Ao20 t416.length co20)) (fun _ hk => hk.2) (.int .i64 t419)) (fun _ hk => hk.2) (.int .i64 t420)) (fun _ hk => hk.2) (.bool t421)) (fun _ h_ => h_.1))) hb); have n3_ := Aside0.mk (Kd.R_below (by (with_reducible repeat (first | apply Kd.R_alloc | apply Kd.R_drewN | apply Kd.R_drew)); exact (Kd.R_mono (Kd.R_far (p := ⟨gb423, 3, none⟩) (Kd.R_far (p := ⟨gb423, 2, none⟩) (Kd.R_far (p := ⟨gb423, 1, none⟩) (Kd.R_far (p := ⟨gb423, 0, none⟩) (Kd.R_types HO418.out BK423.out (by decide)) (fun _ hk => hk.2) (.slice Ao20 t416.length co20)) (fun _ hk => hk.2) (.int .i64 t419)) (fun _ hk => hk.2) (.int .i64 t420)) (fun _ hk => hk.2) (.bool t421)) (fun _ h_ => h_.1))) hb); have n4_ := Aside0.mk (blk_below (g := gb412) (o := .cells #[.slice Ao14 t405.length co14, .int .i64 t408, .int .i64 t409, .bool t410] 38 (0, 0)) (by (with_reducible repeat (first | refine blk_drewN ?_ _ | refine blk_drew ?_ | refine blk_alloc ?_ _)); refine blk_far ?_ NB412_423.out _; (with_reducible repeat (first | refine blk_drewN ?_ _ | refine blk_drew ?_ | refine blk_alloc ?_ _)); refine blk_far ?_ NB412_423.out _; (with_reducible repeat (first | refine blk_drewN ?_ _ | refine blk_drew ?_ | refine blk_alloc ?_ _)); refine blk_far ?_ NB412_423.out _; (with_reducible repeat (first | refine blk_drewN ?_ _ | refine blk_drew ?_ | refine blk_alloc ?_ _)); refine blk_far ?_ NB412_423.out _; (with_reducible repeat (first | refine blk_drewN ?_ _ | refine blk_drew ?_ | refine blk_alloc ?_ _)); exact BK412.out) hb); have n5_ := Aside0.mk (blk_below (g := gb423) (o := .cells #[.slice Ao20 t416.length co20, .int .i64 t419, .int .i64 t420, .bool t421] 38 (0, 0)) (by (with_reducible repeat (first | refine blk_drewN ?_ _ | refine blk_drew ?_ | refine blk_alloc ?_ _)); refine blk_put (cs := #[.slice Ao20 t416.length co20, .int .i64 t419, .int .i64 t420, .bool false]) ?_ 3 _ rfl; (with_reducible repeat (first | refine blk_drewN ?_ _ | refine blk_drew ?_ | refine blk_alloc ?_ _)); refine blk_put (cs := #[.slice Ao20 t416.length co20, .int .i64 t419, .int .i64 0, .bool false]) ?_ 2 _ rfl; (with_reducible repeat (first | refine blk_drewN ?_ _ | refine blk_drew ?_ | refine blk_alloc ?_ _)); refine blk_put (cs := #[.slice Ao20 t416.length co20, .int .i64 0, .int .i64 0, .bool false]) ?_ 1 _ rfl; (with_reducible repeat (first | refine blk_drewN ?_ _ | refine blk_drew ?_ | refine blk_alloc ?_ _)); refine blk_put (cs := #[.slice none 0 0, .int .i64 0, .int .i64 0, .bool false]) ?_ 0 _ rfl; (with_reducible repeat (first | refine blk_drewN ?_ _ | refine blk_drew ?_ | refine blk_alloc ?_ _)); exact BK423.out) hb); have n6_ := Aside0.mk (below_step (by repeat (first | (with_reducible first | exact HB.out | apply below_alloc | apply pw_below_drewN | apply below_drew1 | refine below_set ?_ GE412.out | refine below_set ?_ GE423.out) | exact HB.out)) hb); clear HO404; clear HO407; clear HO415; clear HO418; clear BK412; clear BK423; clear HB; have HO404 := n0_; have HO407 := n1_; have HO415 := n2_; have HO418 := n3_; have BK412 := n4_; have BK423 := n5_; have HB := n6_; clear n0_ n1_ n2_ n3_ n4_ n5_ n6_; (try clear hb); (try clear hb2); (try clear hk); (try clear hi)))
        go_meet
        case rel => exact ⟨_, ((t422 != t411)), (by first | rfl | (simp; done) | (simp [*]; done)), H', ⟨by first | omega | exact Nat.le_refl _⟩, ⟨by (with_reducible repeat (first | apply Kd.R_alloc | apply Kd.R_drewN | apply Kd.R_drew)); exact Kd.R_mono HO415.out (fun _ hk => ⟨hk.1.2, hk.2⟩)⟩, ⟨by (with_reducible repeat (first | apply Kd.R_alloc | apply Kd.R_drewN | apply Kd.R_drew)); exact Kd.R_mono HO407.out (fun _ hk => ⟨hk.1.2, hk.2⟩)⟩, ⟨by (with_reducible repeat (first | apply Kd.R_alloc | apply Kd.R_drewN | apply Kd.R_drew)); exact Kd.R_mono HO418.out (fun _ hk => ⟨hk.2, hk.1.2⟩)⟩, ⟨by (with_reducible repeat (first | refine blk_drewN ?_ _ | refine blk_drew ?_ | refine blk_alloc ?_ _)); exact BK412.out⟩, ⟨by (with_reducible repeat (first | refine blk_drewN ?_ _ | refine blk_drew ?_ | refine blk_alloc ?_ _)); exact BK423.out⟩, ⟨by repeat (first | (with_reducible first | exact HB.out | apply below_alloc | apply pw_below_drewN | apply below_drew1 | refine below_set ?_ GE412.out | refine below_set ?_ GE423.out) | exact HB.out)⟩⟩
      · replace c24 := Bool.eq_false_iff.mpr c24
        subst c24
        have H1 : (laws_FnExactRunToken.j0 k l0 a1 a2 t411 t413 t422 true t405 t408 t409 t410 t416 t419 t420 t421) = some r := by rw [if_neg (show ¬ (false = true) by decide)] at H; exact H
        clear H
        have H := H1
        clear H1
        have H' := Aside0.mk H
        clear H
        have hnb29 := NB423_412.out
        have hnc29 := NB412_423.out
        have hcz30_0 : w19.cell? ⟨gb423, 0, none⟩ = some (.slice none 0 0) := (blk_cell BK423.out 0).trans rfl
        have hcz30_1 : w19.cell? ⟨gb423, 1, none⟩ = some (.int .i64 0) := (blk_cell BK423.out 1).trans rfl
        have hcz30_2 : w19.cell? ⟨gb423, 2, none⟩ = some (.int .i64 0) := (blk_cell BK423.out 2).trans rfl
        have hcz30_3 : w19.cell? ⟨gb423, 3, none⟩ = some (.bool false) := (blk_cell BK423.out 3).trans rfl
        have hfz30_0 := blk_frozen BK423.out 0
        have hfz30_1 := blk_frozen BK423.out 1
        have hfz30_2 := blk_frozen BK423.out 2
        have hfz30_3 := blk_frozen BK423.out 3
        have hcz31_0 : w19.cell? ⟨gb412, 0, none⟩ = some (.slice Ao14 t405.length co14) := (blk_cell BK412.out 0).trans rfl
        have hcz31_1 : w19.cell? ⟨gb412, 1, none⟩ = some (.int .i64 t408) := (blk_cell BK412.out 1).trans rfl
        have hcz31_2 : w19.cell? ⟨gb412, 2, none⟩ = some (.int .i64 t409) := (blk_cell BK412.out 2).trans rfl
        have hcz31_3 : w19.cell? ⟨gb412, 3, none⟩ = some (.bool t410) := (blk_cell BK412.out 3).trans rfl
        have hfz31_0 := blk_frozen BK412.out 0
        have hfz31_1 := blk_frozen BK412.out 1
        have hfz31_2 := blk_frozen BK412.out 2
        have hfz31_3 := blk_frozen BK412.out 3
        go_wp2_with (first | ((with_reducible refine gate_callee (f := 35) rfl ?_); refine goesL_ (some 39) rfl rfl Try.func35 (by kernel_rfl) rfl #[.agg #[.slice Ao20 t416.length co20, .int .i64 t419, .int .i64 t420, .bool t421], .agg #[.slice Ao14 t405.length co14, .int .i64 t408, .int .i64 t409, .bool t410]] rfl (by (try simp only [List.map_toArray, List.map_cons, List.map_nil]); first | done | rfl | (simp only [List.length_drop, List.length_take]; rfl)) ?_; (with_reducible refine (laws_eqTalkRun.calls k _ _ t416 t419 t420 t421 _ _ t405 t408 t409 t410 false _ ?side1 ?side2 ?side3 ?side4 A23.out).mono ?_); (case side1 => refine (Kd.R_reads' (e := 3) (base := w.heap.size) (ok := fun k_ => (((True ∧ some k_ ≠ (.slice Ao11 t402.length co11 : Value).ownBlock) ∧ some k_ ≠ (.slice Ao14 t405.length co14 : Value).ownBlock) ∧ some k_ ≠ (.slice Ao17 t413.length co17 : Value).ownBlock)) (n := t416.length) (c := co20) ?_).2.2; exact (by (with_reducible repeat (first | apply Kd.R_alloc | apply Kd.R_drewN | apply Kd.R_drew)); exact (Kd.R_mono (Kd.R_far (p := ⟨gb423, 3, none⟩) (Kd.R_far (p := ⟨gb423, 2, none⟩) (Kd.R_far (p := ⟨gb423, 1, none⟩) (Kd.R_far (p := ⟨gb423, 0, none⟩) (Kd.R_types HO418.out BK423.out (by decide)) (fun _ hk => hk.2) (.slice Ao20 t416.length co20)) (fun _ hk => hk.2) (.int .i64 t419)) (fun _ hk => hk.2) (.int .i64 t420)) (fun _ hk => hk.2) (.bool t421)) (fun _ h_ => h_.1)))); (case side2 => exact (Kd.R_reads' HO418.out).2.1); (case side3 => refine (Kd.R_reads' (e := 3) (base := w.heap.size) (ok := fun k_ => (((True ∧ some k_ ≠ (.slice Ao11 t402.length co11 : Value).ownBlock) ∧ some k_ ≠ (.slice Ao17 t413.length co17 : Value).ownBlock) ∧ some k_ ≠ (.slice Ao20 t416.length co20 : Value).ownBlock)) (n := t405.length) (c := co14) ?_).2.2; exact (by (with_reducible repeat (first | apply Kd.R_alloc | apply Kd.R_drewN | apply Kd.R_drew)); exact (Kd.R_mono (Kd.R_far (p := ⟨gb423, 3, none⟩) (Kd.R_far (p := ⟨gb423, 2, none⟩) (Kd.R_far (p := ⟨gb423, 1, none⟩) (Kd.R_far (p := ⟨gb423, 0, none⟩) (Kd.R_types HO407.out BK423.out (by decide)) (fun _ hk => hk.2) (.slice Ao20 t416.length co20)) (fun _ hk => hk.2) (.int .i64 t419)) (fun _ hk => hk.2) (.int .i64 t420)) (fun _ hk => hk.2) (.bool t421)) (fun _ h_ => h_.1)))); (case side4 => exact (Kd.R_reads' HO407.out).2.1); rintro e w32 ⟨rfl, hb⟩; refine ⟨_, rfl, ?_⟩; have n0_ := Aside0.mk (Kd.R_below (by (with_reducible repeat (first | apply Kd.R_alloc | apply Kd.R_drewN | apply Kd.R_drew)); exact (Kd.R_mono (Kd.R_far (p := ⟨gb423, 3, none⟩) (Kd.R_far (p := ⟨gb423, 2, none⟩) (Kd.R_far (p := ⟨gb423, 1, none⟩) (Kd.R_far (p := ⟨gb423, 0, none⟩) (Kd.R_types HO404.out BK423.out (by decide)) (fun _ hk => hk.2) (.slice Ao20 t416.length co20)) (fun _ hk => hk.2) (.int .i64 t419)) (fun _ hk => hk.2) (.int .i64 t420)) (fun _ hk => hk.2) (.bool t421)) (fun _ h_ => h_.1))) hb); have n1_ := Aside0.mk (Kd.R_below (by (with_reducible repeat (first | apply Kd.R_alloc | apply Kd.R_drewN | apply Kd.R_drew)); exact (Kd.R_mono (Kd.R_far (p := ⟨gb423, 3, none⟩) (Kd.R_far (p := ⟨gb423, 2, none⟩) (Kd.R_far (p := ⟨gb423, 1, none⟩) (Kd.R_far (p := ⟨gb423, 0, none⟩) (Kd.R_types HO407.out BK423.out (by decide)) (fun _ hk => hk.2) (.slice Ao20 t416.length co20)) (fun _ hk => hk.2) (.int .i64 t419)) (fun _ hk => hk.2) (.int .i64 t420)) (fun _ hk => hk.2) (.bool t421)) (fun _ h_ => h_.1))) hb); have n2_ := Aside0.mk (Kd.R_below (by (with_reducible repeat (first | apply Kd.R_alloc | apply Kd.R_drewN | apply Kd.R_drew)); exact (Kd.R_mono (Kd.R_far (p := ⟨gb423, 3, none⟩) (Kd.R_far (p := ⟨gb423, 2, none⟩) (Kd.R_far (p := ⟨gb423, 1, none⟩) (Kd.R_far (p := ⟨gb423, 0, none⟩) (Kd.R_types HO415.out BK423.out (by decide)) (fun _ hk => hk.2) (.slice Ao20 t416.length co20)) (fun _ hk => hk.2) (.int .i64 t419)) (fun _ hk => hk.2) (.int .i64 t420)) (fun _ hk => hk.2) (.bool t421)) (fun _ h_ => h_.1))) hb); have n3_ := Aside0.mk (Kd.R_below (by (with_reducible repeat (first | apply Kd.R_alloc | apply Kd.R_drewN | apply Kd.R_drew)); exact (Kd.R_mono (Kd.R_far (p := ⟨gb423, 3, none⟩) (Kd.R_far (p := ⟨gb423, 2, none⟩) (Kd.R_far (p := ⟨gb423, 1, none⟩) (Kd.R_far (p := ⟨gb423, 0, none⟩) (Kd.R_types HO418.out BK423.out (by decide)) (fun _ hk => hk.2) (.slice Ao20 t416.length co20)) (fun _ hk => hk.2) (.int .i64 t419)) (fun _ hk => hk.2) (.int .i64 t420)) (fun _ hk => hk.2) (.bool t421)) (fun _ h_ => h_.1))) hb); have n4_ := Aside0.mk (blk_below (g := gb412) (o := .cells #[.slice Ao14 t405.length co14, .int .i64 t408, .int .i64 t409, .bool t410] 38 (0, 0)) (by (with_reducible repeat (first | refine blk_drewN ?_ _ | refine blk_drew ?_ | refine blk_alloc ?_ _)); refine blk_far ?_ NB412_423.out _; (with_reducible repeat (first | refine blk_drewN ?_ _ | refine blk_drew ?_ | refine blk_alloc ?_ _)); refine blk_far ?_ NB412_423.out _; (with_reducible repeat (first | refine blk_drewN ?_ _ | refine blk_drew ?_ | refine blk_alloc ?_ _)); refine blk_far ?_ NB412_423.out _; (with_reducible repeat (first | refine blk_drewN ?_ _ | refine blk_drew ?_ | refine blk_alloc ?_ _)); refine blk_far ?_ NB412_423.out _; (with_reducible repeat (first | refine blk_drewN ?_ _ | refine blk_drew ?_ | refine blk_alloc ?_ _)); exact BK412.out) hb); have n5_ := Aside0.mk (blk_below (g := gb423) (o := .cells #[.slice Ao20 t416.length co20, .int .i64 t419, .int .i64 t420, .bool t421] 38 (0, 0)) (by (with_reducible repeat (first | refine blk_drewN ?_ _ | refine blk_drew ?_ | refine blk_alloc ?_ _)); refine blk_put (cs := #[.slice Ao20 t416.length co20, .int .i64 t419, .int .i64 t420, .bool false]) ?_ 3 _ rfl; (with_reducible repeat (first | refine blk_drewN ?_ _ | refine blk_drew ?_ | refine blk_alloc ?_ _)); refine blk_put (cs := #[.slice Ao20 t416.length co20, .int .i64 t419, .int .i64 0, .bool false]) ?_ 2 _ rfl; (with_reducible repeat (first | refine blk_drewN ?_ _ | refine blk_drew ?_ | refine blk_alloc ?_ _)); refine blk_put (cs := #[.slice Ao20 t416.length co20, .int .i64 0, .int .i64 0, .bool false]) ?_ 1 _ rfl; (with_reducible repeat (first | refine blk_drewN ?_ _ | refine blk_drew ?_ | refine blk_alloc ?_ _)); refine blk_put (cs := #[.slice none 0 0, .int .i64 0, .int .i64 0, .bool false]) ?_ 0 _ rfl; (with_reducible repeat (first | refine blk_drewN ?_ _ | refine blk_drew ?_ | refine blk_alloc ?_ _)); exact BK423.out) hb); have n6_ := Aside0.mk (below_step (by repeat (first | (with_reducible first | exact HB.out | apply below_alloc | apply pw_below_drewN | apply below_drew1 | refine below_set ?_ GE412.out | refine below_set ?_ GE423.out) | exact HB.out)) hb); clear HO404; clear HO407; clear HO415; clear HO418; clear BK412; clear BK423; clear HB; have HO404 := n0_; have HO407 := n1_; have HO415 := n2_; have HO418 := n3_; have BK412 := n4_; have BK423 := n5_; have HB := n6_; clear n0_ n1_ n2_ n3_ n4_ n5_ n6_; (try clear hb); (try clear hb2); (try clear hk); (try clear hi)))
        go_meet
        case rel => exact ⟨_, (true), (by first | rfl | (simp; done) | (simp [*]; done)), H', ⟨by first | omega | exact Nat.le_refl _⟩, ⟨by (with_reducible repeat (first | apply Kd.R_alloc | apply Kd.R_drewN | apply Kd.R_drew)); exact Kd.R_mono HO415.out (fun _ hk => ⟨hk.1.2, hk.2⟩)⟩, ⟨by (with_reducible repeat (first | apply Kd.R_alloc | apply Kd.R_drewN | apply Kd.R_drew)); exact Kd.R_mono HO407.out (fun _ hk => ⟨hk.1.2, hk.2⟩)⟩, ⟨by (with_reducible repeat (first | apply Kd.R_alloc | apply Kd.R_drewN | apply Kd.R_drew)); exact Kd.R_mono HO418.out (fun _ hk => ⟨hk.2, hk.1.2⟩)⟩, ⟨by (with_reducible repeat (first | refine blk_drewN ?_ _ | refine blk_drew ?_ | refine blk_alloc ?_ _)); exact BK412.out⟩, ⟨by (with_reducible repeat (first | refine blk_drewN ?_ _ | refine blk_drew ?_ | refine blk_alloc ?_ _)); exact BK423.out⟩, ⟨by repeat (first | (with_reducible first | exact HB.out | apply below_alloc | apply pw_below_drewN | apply below_drew1 | refine below_set ?_ GE412.out | refine below_set ?_ GE423.out) | exact HB.out)⟩⟩
    case rest =>
      clear HC9
      try clear c1
      try clear c2
      try clear p2
      try clear c3
      try clear c4
      try clear c4b0
      try clear c4b1
      try clear c10
      try clear c20
      try clear c21
      try clear c24
      try clear c25
      try clear c29
      try clear c30
      try clear c31
      try clear hcz15_0
      try clear hcz15_1
      try clear hcz15_2
      try clear hcz15_3
      try clear hcz22_0
      try clear hcz22_1
      try clear hcz22_2
      try clear hcz22_3
      try clear hcz26_0
      try clear hcz26_1
      try clear hcz26_2
      try clear hcz26_3
      try clear hcz27_0
      try clear hcz27_1
      try clear hcz27_2
      try clear hcz27_3
      try clear hcz30_0
      try clear hcz30_1
      try clear hcz30_2
      try clear hcz30_3
      try clear hcz31_0
      try clear hcz31_1
      try clear hcz31_2
      try clear hcz31_3
      try clear hfz15_0
      try clear hfz15_1
      try clear hfz15_2
      try clear hfz15_3
      try clear hfz22_0
      try clear hfz22_1
      try clear hfz22_2
      try clear hfz22_3
      try clear hfz26_0
      try clear hfz26_1
      try clear hfz26_2
      try clear hfz26_3
      try clear hfz27_0
      try clear hfz27_1
      try clear hfz27_2
      try clear hfz27_3
      try clear hfz30_0
      try clear hfz30_1
      try clear hfz30_2
      try clear hfz30_3
      try clear hfz31_0
      try clear hfz31_1
      try clear hfz31_2
      try clear hfz31_3
      obtain ⟨kq, x45_8, rfl, HA, HJ8, HO_9, HO_413000, HO_424000, BK412, BK423, HB⟩ := hcut
      cases kq with
      | zero => exact absurd HA.out (by simp [laws_FnExactRunToken.j0])
      | succ kj8 =>
        have H := HA.out
        clear HA
        simp only [laws_FnExactRunToken.j0] at H
        by_cases c33 : x45_8 = true
        · subst c33
          have H1 : (some false) = some r := by rw [if_pos rfl] at H; exact H
          clear H
          have H := H1
          clear H1
          obtain rfl := Option.some.inj H
          go_wp2
          go_ret
          exact ⟨by first | rfl | (simp [errW_none, errW_some] <;> rfl) | (simp [*, errW_none, errW_some] <;> rfl), by repeat (first | (with_reducible first | exact HB.out | apply below_alloc | apply pw_below_drewN | apply below_drew1 | refine below_set ?_ GE412.out | refine below_set ?_ GE423.out) | exact HB.out)⟩
        · replace c33 := Bool.eq_false_iff.mpr c33
          subst c33
          have H1 : ((laws_toIntS.f kj8 l0).bind fun t425 => ((laws_eqIntS.f kj8 t413 t425).bind fun t428 => (if t428 = true then ((laws_markIntS.f kj8 t413 1).bind fun bt429 => (if bt429.1 < 0 then (laws_FnExactRunToken.j1 kj8 l0 a1 a2 t411 true t405 t408 t409 t410 t416 t419 t420 t421) else ((laws_eqTalkRun.f kj8 t416 t419 t420 t421 t405 t408 t409 t410).bind fun t431 => (if t431 = true then (laws_FnExactRunToken.j1 kj8 l0 a1 a2 t411 (t422 != t411) t405 t408 t409 t410 t416 t419 t420 t421) else (laws_FnExactRunToken.j1 kj8 l0 a1 a2 t411 true t405 t408 t409 t410 t416 t419 t420 t421))))) else (some false)))) = some r := by rw [if_neg (show ¬ (false = true) by decide)] at H; exact H
          clear H
          have H := H1
          clear H1
          replace H := Option.bind_eq_some_iff.mp H
          obtain ⟨t425, A340, H⟩ := H
          replace H : ((laws_eqIntS.f kj8 t413 t425).bind fun t428 => (if t428 = true then ((laws_markIntS.f kj8 t413 1).bind fun bt429 => (if bt429.1 < 0 then (laws_FnExactRunToken.j1 kj8 l0 a1 a2 t411 true t405 t408 t409 t410 t416 t419 t420 t421) else ((laws_eqTalkRun.f kj8 t416 t419 t420 t421 t405 t408 t409 t410).bind fun t431 => (if t431 = true then (laws_FnExactRunToken.j1 kj8 l0 a1 a2 t411 (t422 != t411) t405 t408 t409 t410 t416 t419 t420 t421) else (laws_FnExactRunToken.j1 kj8 l0 a1 a2 t411 true t405 t408 t409 t410 t416 t419 t420 t421))))) else (some false))) = some r := H
          have A34 := Aside0.mk A340
          clear A340
          replace H := Option.bind_eq_some_iff.mp H
          obtain ⟨t428, A350, H⟩ := H
          replace H : (if t428 = true then ((laws_markIntS.f kj8 t413 1).bind fun bt429 => (if bt429.1 < 0 then (laws_FnExactRunToken.j1 kj8 l0 a1 a2 t411 true t405 t408 t409 t410 t416 t419 t420 t421) else ((laws_eqTalkRun.f kj8 t416 t419 t420 t421 t405 t408 t409 t410).bind fun t431 => (if t431 = true then (laws_FnExactRunToken.j1 kj8 l0 a1 a2 t411 (t422 != t411) t405 t408 t409 t410 t416 t419 t420 t421) else (laws_FnExactRunToken.j1 kj8 l0 a1 a2 t411 true t405 t408 t409 t410 t416 t419 t420 t421))))) else (some false)) = some r := H
          have A35 := Aside0.mk A350
          clear A350
          by_cases c36 : t428 = true
          · subst c36
            have H1 : ((laws_markIntS.f kj8 t413 1).bind fun bt429 => (if bt429.1 < 0 then (laws_FnExactRunToken.j1 kj8 l0 a1 a2 t411 true t405 t408 t409 t410 t416 t419 t420 t421) else ((laws_eqTalkRun.f kj8 t416 t419 t420 t421 t405 t408 t409 t410).bind fun t431 => (if t431 = true then (laws_FnExactRunToken.j1 kj8 l0 a1 a2 t411 (t422 != t411) t405 t408 t409 t410 t416 t419 t420 t421) else (laws_FnExactRunToken.j1 kj8 l0 a1 a2 t411 true t405 t408 t409 t410 t416 t419 t420 t421))))) = some r := by rw [if_pos rfl] at H; exact H
            clear H
            have H := H1
            clear H1
            replace H := Option.bind_eq_some_iff.mp H
            obtain ⟨⟨t429, t430⟩, A370, H⟩ := H
            replace H : (if t429 < 0 then (laws_FnExactRunToken.j1 kj8 l0 a1 a2 t411 true t405 t408 t409 t410 t416 t419 t420 t421) else ((laws_eqTalkRun.f kj8 t416 t419 t420 t421 t405 t408 t409 t410).bind fun t431 => (if t431 = true then (laws_FnExactRunToken.j1 kj8 l0 a1 a2 t411 (t422 != t411) t405 t408 t409 t410 t416 t419 t420 t421) else (laws_FnExactRunToken.j1 kj8 l0 a1 a2 t411 true t405 t408 t409 t410 t416 t419 t420 t421)))) = some r := H
            have A37 := Aside0.mk A370
            clear A370
            have HC38 := Aside0.mk H
            clear H
            go_upto_region 12 with (first | ((with_reducible refine gate_callee (f := 20) rfl ?_); refine goesL_ (some 48) rfl rfl Try.func20 (by kernel_rfl) rfl #[.slice A0 l0.length c0] rfl (by (try simp only [List.map_toArray, List.map_cons, List.map_nil]); first | done | rfl | (simp only [List.length_drop, List.length_take]; rfl)) ?_; (with_reducible refine (laws_toIntS.calls kj8 _ _ l0 t425 _ ?side1 ?side2 A34.out).mono ?_); (case side1 => repeat (first | exact (Kd.C_below HR0.out HB.out) | (with_reducible refine Kd.C_alloc ?_ _) | (with_reducible refine Kd.C_drewN ?_ _) | (with_reducible refine Kd.C_drew ?_))); (case side2 => exact HC0.out); rintro e w39 ⟨v426, rfl, ho0, hb⟩; refine ⟨_, rfl, ?_⟩; have n0_ := Aside0.mk (Kd.R_elder' (by (with_reducible repeat (first | apply Kd.R_alloc | apply Kd.R_drewN | apply Kd.R_drew)); exact HO_9.out) (Kd.R_base ho0) hb); have n1_ := Aside0.mk (Kd.R_elder' (by (with_reducible repeat (first | apply Kd.R_alloc | apply Kd.R_drewN | apply Kd.R_drew)); exact HO_413000.out) (Kd.R_base ho0) hb); have n2_ := Aside0.mk (Kd.R_elder' (by (with_reducible repeat (first | apply Kd.R_alloc | apply Kd.R_drewN | apply Kd.R_drew)); exact HO_424000.out) (Kd.R_base ho0) hb); have n3_ := Aside0.mk (Kd.R_lower (Kd.R_new' (Kd.R_new' (Kd.R_new' ho0 (Kd.R_lt (by (with_reducible repeat (first | apply Kd.R_alloc | apply Kd.R_drewN | apply Kd.R_drew)); exact HO_9.out))) (Kd.R_lt (by (with_reducible repeat (first | apply Kd.R_alloc | apply Kd.R_drewN | apply Kd.R_drew)); exact HO_413000.out))) (Kd.R_lt (by (with_reducible repeat (first | apply Kd.R_alloc | apply Kd.R_drewN | apply Kd.R_drew)); exact HO_424000.out))) (below_size (by repeat (first | (with_reducible first | exact HB.out | apply below_alloc | apply pw_below_drewN | apply below_drew1 | refine below_set ?_ GE412.out | refine below_set ?_ GE423.out) | exact HB.out)))); have n4_ := Aside0.mk (blk_below (g := gb412) (o := .cells #[.slice Ao14 t405.length co14, .int .i64 t408, .int .i64 t409, .bool t410] 38 (0, 0)) (by (with_reducible repeat (first | refine blk_drewN ?_ _ | refine blk_drew ?_ | refine blk_alloc ?_ _)); exact BK412.out) hb); have n5_ := Aside0.mk (blk_below (g := gb423) (o := .cells #[.slice Ao20 t416.length co20, .int .i64 t419, .int .i64 t420, .bool t421] 38 (0, 0)) (by (with_reducible repeat (first | refine blk_drewN ?_ _ | refine blk_drew ?_ | refine blk_alloc ?_ _)); exact BK423.out) hb); have n6_ := Aside0.mk (below_step (by repeat (first | (with_reducible first | exact HB.out | apply below_alloc | apply pw_below_drewN | apply below_drew1 | refine below_set ?_ GE412.out | refine below_set ?_ GE423.out) | exact HB.out)) hb); clear HO_9; clear HO_413000; clear HO_424000; clear BK412; clear BK423; clear HB; have HO_9 := n0_; have HO_413000 := n1_; have HO_424000 := n2_; have HO427 := n3_; have BK412 := n4_; have BK423 := n5_; have HB := n6_; clear n0_ n1_ n2_ n3_ n4_ n5_ n6_; (try clear hb); (try clear hb2); (try clear hk); (try clear hi); (try clear ho0); obtain ⟨Ao40, co40, eo40⟩ := Kd.R_slice HO427.out; subst eo40) | ((with_reducible refine gate_callee (f := 22) rfl ?_); refine goesL_ (some 49) rfl rfl Try.func22 (by kernel_rfl) rfl #[.slice Ao17 t413.length co17, .slice Ao40 t425.length co40] rfl (by (try simp only [List.map_toArray, List.map_cons, List.map_nil]); first | done | rfl | (simp only [List.length_drop, List.length_take]; rfl)) ?_; (with_reducible refine (laws_eqIntS.calls kj8 _ _ t413 _ _ t425 true _ ?side1 ?side2 ?side3 ?side4 A35.out).mono ?_); (case side1 => repeat (first | exact (Kd.R_reads' HO_9.out).2.2 | (with_reducible refine Kd.C_alloc ?_ _) | (with_reducible refine Kd.C_drewN ?_ _) | (with_reducible refine Kd.C_drew ?_))); (case side2 => exact (Kd.R_reads' HO_9.out).2.1); (case side3 => repeat (first | exact (Kd.R_reads' HO427.out).2.2 | (with_reducible refine Kd.C_alloc ?_ _) | (with_reducible refine Kd.C_drewN ?_ _) | (with_reducible refine Kd.C_drew ?_))); (case side4 => exact (Kd.R_reads' HO427.out).2.1); rintro e w' ⟨rfl, ⟨nd, rfl⟩⟩; refine ⟨_, rfl, ?_⟩) | ((with_reducible refine gate_callee (f := 25) rfl ?_); refine goesL_ (some 53) rfl rfl Try.func25 (by kernel_rfl) rfl #[.slice Ao17 t413.length co17, .int .i64 1] rfl (by (try simp only [List.map_toArray, List.map_cons, List.map_nil]); first | done | rfl | (simp only [List.length_drop, List.length_take]; rfl)) ?_; (with_reducible refine (laws_markIntS.calls kj8 (fun k_ => some k_ = (.slice Ao17 t413.length co17 : Value).ownBlock) (.slice Ao17 t413.length co17) t413 1 t429 t430 w _ ?side1 ?side2 A37.out).mono ?_); (case side1 => repeat (first | (with_reducible first | exact HB.out | apply below_alloc | apply pw_below_drewN | apply below_drew1 | refine below_set ?_ GE412.out | refine below_set ?_ GE423.out) | exact HB.out)); (case side2 => exact Kd.R_tight rfl HO_9.out); rintro e w41 ⟨rfl, hy0, hb, hkp⟩; refine ⟨_, rfl, ?_⟩; have n0_ := Aside0.mk (Kd.R_reok rfl hy0 (fun k_ e_ => HO_9.out.1 k_ e_)); have n1_ := Aside0.mk (Kd.R_mono (ok' := fun k_ => some k_ ≠ (.slice Ao17 t413.length co17 : Value).ownBlock ∧ some k_ ≠ (.slice Ao20 t416.length co20 : Value).ownBlock ∧ some k_ ≠ (.slice Ao40 t425.length co40 : Value).ownBlock) (Kd.R_keptB (HO_413000.out) hkp (fun k_ hk_ hs_ => (hk_.1.1) hs_)) (fun k_ hk_ => ⟨hk_.1.1.1, hk_.1.1.2, hk_.1.2⟩)); have n2_ := Aside0.mk (Kd.R_mono (ok' := fun k_ => some k_ ≠ (.slice Ao17 t413.length co17 : Value).ownBlock ∧ some k_ ≠ (.slice Ao14 t405.length co14 : Value).ownBlock ∧ some k_ ≠ (.slice Ao40 t425.length co40 : Value).ownBlock) (Kd.R_keptB (HO_424000.out) hkp (fun k_ hk_ hs_ => (hk_.1.1) hs_)) (fun k_ hk_ => ⟨hk_.1.1.1, hk_.1.1.2, hk_.1.2⟩)); have n3_ := Aside0.mk (blk_kept (by (with_reducible repeat (first | refine blk_drewN ?_ _ | refine blk_drew ?_ | refine blk_alloc ?_ _)); exact BK412.out) hkp (fun hs_ => (fun e_ => (Kd.R_ne HO_9.out BK412.out (by decide)) e_) hs_)); have n4_ := Aside0.mk (blk_kept (by (with_reducible repeat (first | refine blk_drewN ?_ _ | refine blk_drew ?_ | refine blk_alloc ?_ _)); exact BK423.out) hkp (fun hs_ => (fun e_ => (Kd.R_ne HO_9.out BK423.out (by decide)) e_) hs_)); have n5_ := Aside0.mk (Kd.R_mono (ok' := fun k_ => some k_ ≠ (.slice Ao17 t413.length co17 : Value).ownBlock ∧ some k_ ≠ (.slice Ao14 t405.length co14 : Value).ownBlock ∧ some k_ ≠ (.slice Ao20 t416.length co20 : Value).ownBlock) (Kd.R_keptB (HO427.out) hkp (fun k_ hk_ hs_ => (hk_.1.1.2) hs_)) (fun k_ hk_ => ⟨hk_.1.1.1.2, hk_.1.1.2, hk_.1.2⟩)); have n6_ := Aside0.mk (hb); clear HO_9; clear HO_413000; clear HO_424000; clear BK412; clear BK423; clear HO427; clear HB; have HO_9 := n0_; have HO_413000 := n1_; have HO_424000 := n2_; have BK412 := n3_; have BK423 := n4_; have HO427 := n5_; have HB := n6_; clear n0_ n1_ n2_ n3_ n4_ n5_ n6_; (try clear hb); (try clear hkp); (try clear hy0)))
            (try simp only [Act.put, List.setIfInBounds_toArray, List.set_cons_zero, List.set_cons_succ])
            go_cut [66] (fun v66 wc => ∃ (kq : Nat) (x66_37 : Bool), v66 = .bool x66_37 ∧ Aside0 (laws_FnExactRunToken.j1 kq l0 a1 a2 t411 x66_37 t405 t408 t409 t410 t416 t419 t420 t421 = some r) ∧ Aside0 (kq ≤ kj8) ∧ Aside0 (Kd.R (Kd.int .i64) 3 wc w.heap.size (fun k_ => some k_ ≠ ((.slice Ao20 t416.length co20) : Value).ownBlock) (.slice Ao14 t405.length co14) t405) ∧ Aside0 (Kd.R (Kd.int .i64) 3 wc w.heap.size (fun k_ => some k_ ≠ ((.slice Ao14 t405.length co14) : Value).ownBlock) (.slice Ao20 t416.length co20) t416) ∧ Aside0 (wc.heap[gb412]? = some (.cells #[(.slice Ao14 t405.length co14), .int .i64 t408, .int .i64 t409, .bool t410] 38 (0, 0))) ∧ Aside0 (wc.heap[gb423]? = some (.cells #[(.slice Ao20 t416.length co20), .int .i64 t419, .int .i64 t420, .bool t421] 38 (0, 0))) ∧ Aside0 (Below w.heap.size w wc))
            case first =>
              have H := HC38.out
              clear HC38
              by_cases c42 : t429 < 0
              · rw [if_pos c42] at H
                have c42b0 : decide (t429 < 0) = true := decide_eq_true c42
                clear c42
                (first | rw [c42b0] | (simp only [i64_w, i32_w]; rw [c42b0]) | skip)
                have H' := Aside0.mk H
                clear H
                go_wp2
                go_meet
                case rel => exact ⟨_, (true), (by first | rfl | (simp; done) | (simp [*]; done)), H', ⟨by have := HJ8.out; first | omega | exact Nat.le_refl _⟩, ⟨by (with_reducible repeat (first | apply Kd.R_alloc | apply Kd.R_drewN | apply Kd.R_drew)); exact Kd.R_mono HO_413000.out (fun _ hk => hk.2.1)⟩, ⟨by (with_reducible repeat (first | apply Kd.R_alloc | apply Kd.R_drewN | apply Kd.R_drew)); exact Kd.R_mono HO_424000.out (fun _ hk => hk.2.1)⟩, ⟨by (with_reducible repeat (first | refine blk_drewN ?_ _ | refine blk_drew ?_ | refine blk_alloc ?_ _)); exact BK412.out⟩, ⟨by (with_reducible repeat (first | refine blk_drewN ?_ _ | refine blk_drew ?_ | refine blk_alloc ?_ _)); exact BK423.out⟩, ⟨by repeat (first | (with_reducible first | exact HB.out | apply below_alloc | apply pw_below_drewN | apply below_drew1 | refine below_set ?_ GE412.out | refine below_set ?_ GE423.out) | exact HB.out)⟩⟩
              · rw [if_neg c42] at H
                have c42b0 : decide (t429 < 0) = false := decide_eq_false c42
                clear c42
                (first | rw [c42b0] | (simp only [i64_w, i32_w]; rw [c42b0]) | skip)
                replace H := Option.bind_eq_some_iff.mp H
                obtain ⟨t431, A430, H⟩ := H
                replace H : (if t431 = true then (laws_FnExactRunToken.j1 kj8 l0 a1 a2 t411 (t422 != t411) t405 t408 t409 t410 t416 t419 t420 t421) else (laws_FnExactRunToken.j1 kj8 l0 a1 a2 t411 true t405 t408 t409 t410 t416 t419 t420 t421)) = some r := H
                have A43 := Aside0.mk A430
                clear A430
                by_cases c44 : t431 = true
                · subst c44
                  have H1 : (laws_FnExactRunToken.j1 kj8 l0 a1 a2 t411 (t422 != t411) t405 t408 t409 t410 t416 t419 t420 t421) = some r := by rw [if_pos rfl] at H; exact H
                  clear H
                  have H := H1
                  clear H1
                  have H' := Aside0.mk H
                  clear H
                  have hnb45 := NB423_412.out
                  have hnc45 := NB412_423.out
                  have hcz46_0 : w41.cell? ⟨gb423, 0, none⟩ = some (.slice Ao20 t416.length co20) := (blk_cell BK423.out 0).trans rfl
                  have hcz46_1 : w41.cell? ⟨gb423, 1, none⟩ = some (.int .i64 t419) := (blk_cell BK423.out 1).trans rfl
                  have hcz46_2 : w41.cell? ⟨gb423, 2, none⟩ = some (.int .i64 t420) := (blk_cell BK423.out 2).trans rfl
                  have hcz46_3 : w41.cell? ⟨gb423, 3, none⟩ = some (.bool t421) := (blk_cell BK423.out 3).trans rfl
                  have hfz46_0 := blk_frozen BK423.out 0
                  have hfz46_1 := blk_frozen BK423.out 1
                  have hfz46_2 := blk_frozen BK423.out 2
                  have hfz46_3 := blk_frozen BK423.out 3
                  have hcz47_0 : w41.cell? ⟨gb412, 0, none⟩ = some (.slice Ao14 t405.length co14) := (blk_cell BK412.out 0).trans rfl
                  have hcz47_1 : w41.cell? ⟨gb412, 1, none⟩ = some (.int .i64 t408) := (blk_cell BK412.out 1).trans rfl
                  have hcz47_2 : w41.cell? ⟨gb412, 2, none⟩ = some (.int .i64 t409) := (blk_cell BK412.out 2).trans rfl
                  have hcz47_3 : w41.cell? ⟨gb412, 3, none⟩ = some (.bool t410) := (blk_cell BK412.out 3).trans rfl
                  have hfz47_0 := blk_frozen BK412.out 0
                  have hfz47_1 := blk_frozen BK412.out 1
                  have hfz47_2 := blk_frozen BK412.out 2
                  have hfz47_3 := blk_frozen BK412.out 3
                  go_wp2_with (first | (go_at_call 35; (with_reducible refine (laws_eqTalkRun.calls kj8 _ _ t416 t419 t420 t421 _ _ t405 t408 t409 t410 true _ ?side1 ?side2 ?side3 ?side4 A43.out).mono ?_); (case side1 => repeat (first | exact (Kd.R_reads' HO_424000.out).2.2 | (with_reducible refine Kd.C_alloc ?_ _) | (with_reducible refine Kd.C_drewN ?_ _) | (with_reducible refine Kd.C_drew ?_))); (case side2 => exact (Kd.R_reads' HO_424000.out).2.1); (case side3 => repeat (first | exact (Kd.R_reads' HO_413000.out).2.2 | (with_reducible refine Kd.C_alloc ?_ _) | (with_reducible refine Kd.C_drewN ?_ _) | (with_reducible refine Kd.C_drew ?_))); (case side4 => exact (Kd.R_reads' HO_413000.out).2.1); rintro e w48 ⟨rfl, hb⟩; have n0_ := Aside0.mk (Kd.R_below (by (with_reducible repeat (first | apply Kd.R_alloc | apply Kd.R_drewN | apply Kd.R_drew)); exact HO_9.out) hb); have n1_ := Aside0.mk (Kd.R_below (by (with_reducible repeat (first | apply Kd.R_alloc | apply Kd.R_drewN | apply Kd.R_drew)); exact HO_413000.out) hb); have n2_ := Aside0.mk (Kd.R_below (by (with_reducible repeat (first | apply Kd.R_alloc | apply Kd.R_drewN | apply Kd.R_drew)); exact HO_424000.out) hb); have n3_ := Aside0.mk (Kd.R_below (by (with_reducible repeat (first | apply Kd.R_alloc | apply Kd.R_drewN | apply Kd.R_drew)); exact HO427.out) hb); have n4_ := Aside0.mk (blk_below (g := gb412) (o := .cells #[.slice Ao14 t405.length co14, .int .i64 t408, .int .i64 t409, .bool t410] 38 (0, 0)) (by (with_reducible repeat (first | refine blk_drewN ?_ _ | refine blk_drew ?_ | refine blk_alloc ?_ _)); exact BK412.out) hb); have n5_ := Aside0.mk (blk_below (g := gb423) (o := .cells #[.slice Ao20 t416.length co20, .int .i64 t419, .int .i64 t420, .bool t421] 38 (0, 0)) (by (with_reducible repeat (first | refine blk_drewN ?_ _ | refine blk_drew ?_ | refine blk_alloc ?_ _)); exact BK423.out) hb); have n6_ := Aside0.mk (below_step (by repeat (first | (with_reducible first | exact HB.out | apply below_alloc | apply pw_below_drewN | apply below_drew1 | refine below_set ?_ GE412.out | refine below_set ?_ GE423.out) | exact HB.out)) hb); clear HO_9; clear HO_413000; clear HO_424000; clear HO427; clear BK412; clear BK423; clear HB; have HO_9 := n0_; have HO_413000 := n1_; have HO_424000 := n2_; have HO427 := n3_; have BK412 := n4_; have BK423 := n5_; have HB := n6_; clear n0_ n1_ n2_ n3_ n4_ n5_ n6_; (try clear hb); (try clear hb2); (try clear hk); (try clear hi)))
                  go_meet
                  case rel => exact ⟨_, ((t422 != t411)), (by first | rfl | (simp; done) | (simp [*]; done)), H', ⟨by have := HJ8.out; first | omega | exact Nat.le_refl _⟩, ⟨by (with_reducible repeat (first | apply Kd.R_alloc | apply Kd.R_drewN | apply Kd.R_drew)); exact Kd.R_mono HO_413000.out (fun _ hk => hk.2.1)⟩, ⟨by (with_reducible repeat (first | apply Kd.R_alloc | apply Kd.R_drewN | apply Kd.R_drew)); exact Kd.R_mono HO_424000.out (fun _ hk => hk.2.1)⟩, ⟨by (with_reducible repeat (first | refine blk_drewN ?_ _ | refine blk_drew ?_ | refine blk_alloc ?_ _)); exact BK412.out⟩, ⟨by (with_reducible repeat (first | refine blk_drewN ?_ _ | refine blk_drew ?_ | refine blk_alloc ?_ _)); exact BK423.out⟩, ⟨by repeat (first | (with_reducible first | exact HB.out | apply below_alloc | apply pw_below_drewN | apply below_drew1 | refine below_set ?_ GE412.out | refine below_set ?_ GE423.out) | exact HB.out)⟩⟩
                · replace c44 := Bool.eq_false_iff.mpr c44
                  subst c44
                  have H1 : (laws_FnExactRunToken.j1 kj8 l0 a1 a2 t411 true t405 t408 t409 t410 t416 t419 t420 t421) = some r := by rw [if_neg (show ¬ (false = true) by decide)] at H; exact H
                  clear H
                  have H := H1
                  clear H1
                  have H' := Aside0.mk H
                  clear H
                  have hnb49 := NB423_412.out
                  have hnc49 := NB412_423.out
                  have hcz50_0 : w41.cell? ⟨gb423, 0, none⟩ = some (.slice Ao20 t416.length co20) := (blk_cell BK423.out 0).trans rfl
                  have hcz50_1 : w41.cell? ⟨gb423, 1, none⟩ = some (.int .i64 t419) := (blk_cell BK423.out 1).trans rfl
                  have hcz50_2 : w41.cell? ⟨gb423, 2, none⟩ = some (.int .i64 t420) := (blk_cell BK423.out 2).trans rfl
                  have hcz50_3 : w41.cell? ⟨gb423, 3, none⟩ = some (.bool t421) := (blk_cell BK423.out 3).trans rfl
                  have hfz50_0 := blk_frozen BK423.out 0
                  have hfz50_1 := blk_frozen BK423.out 1
                  have hfz50_2 := blk_frozen BK423.out 2
                  have hfz50_3 := blk_frozen BK423.out 3
                  have hcz51_0 : w41.cell? ⟨gb412, 0, none⟩ = some (.slice Ao14 t405.length co14) := (blk_cell BK412.out 0).trans rfl
                  have hcz51_1 : w41.cell? ⟨gb412, 1, none⟩ = some (.int .i64 t408) := (blk_cell BK412.out 1).trans rfl
                  have hcz51_2 : w41.cell? ⟨gb412, 2, none⟩ = some (.int .i64 t409) := (blk_cell BK412.out 2).trans rfl
                  have hcz51_3 : w41.cell? ⟨gb412, 3, none⟩ = some (.bool t410) := (blk_cell BK412.out 3).trans rfl
                  have hfz51_0 := blk_frozen BK412.out 0
                  have hfz51_1 := blk_frozen BK412.out 1
                  have hfz51_2 := blk_frozen BK412.out 2
                  have hfz51_3 := blk_frozen BK412.out 3
                  go_wp2_with (first | (go_at_call 35; (with_reducible refine (laws_eqTalkRun.calls kj8 _ _ t416 t419 t420 t421 _ _ t405 t408 t409 t410 false _ ?side1 ?side2 ?side3 ?side4 A43.out).mono ?_); (case side1 => repeat (first | exact (Kd.R_reads' HO_424000.out).2.2 | (with_reducible refine Kd.C_alloc ?_ _) | (with_reducible refine Kd.C_drewN ?_ _) | (with_reducible refine Kd.C_drew ?_))); (case side2 => exact (Kd.R_reads' HO_424000.out).2.1); (case side3 => repeat (first | exact (Kd.R_reads' HO_413000.out).2.2 | (with_reducible refine Kd.C_alloc ?_ _) | (with_reducible refine Kd.C_drewN ?_ _) | (with_reducible refine Kd.C_drew ?_))); (case side4 => exact (Kd.R_reads' HO_413000.out).2.1); rintro e w52 ⟨rfl, hb⟩; have n0_ := Aside0.mk (Kd.R_below (by (with_reducible repeat (first | apply Kd.R_alloc | apply Kd.R_drewN | apply Kd.R_drew)); exact HO_9.out) hb); have n1_ := Aside0.mk (Kd.R_below (by (with_reducible repeat (first | apply Kd.R_alloc | apply Kd.R_drewN | apply Kd.R_drew)); exact HO_413000.out) hb); have n2_ := Aside0.mk (Kd.R_below (by (with_reducible repeat (first | apply Kd.R_alloc | apply Kd.R_drewN | apply Kd.R_drew)); exact HO_424000.out) hb); have n3_ := Aside0.mk (Kd.R_below (by (with_reducible repeat (first | apply Kd.R_alloc | apply Kd.R_drewN | apply Kd.R_drew)); exact HO427.out) hb); have n4_ := Aside0.mk (blk_below (g := gb412) (o := .cells #[.slice Ao14 t405.length co14, .int .i64 t408, .int .i64 t409, .bool t410] 38 (0, 0)) (by (with_reducible repeat (first | refine blk_drewN ?_ _ | refine blk_drew ?_ | refine blk_alloc ?_ _)); exact BK412.out) hb); have n5_ := Aside0.mk (blk_below (g := gb423) (o := .cells #[.slice Ao20 t416.length co20, .int .i64 t419, .int .i64 t420, .bool t421] 38 (0, 0)) (by (with_reducible repeat (first | refine blk_drewN ?_ _ | refine blk_drew ?_ | refine blk_alloc ?_ _)); exact BK423.out) hb); have n6_ := Aside0.mk (below_step (by repeat (first | (with_reducible first | exact HB.out | apply below_alloc | apply pw_below_drewN | apply below_drew1 | refine below_set ?_ GE412.out | refine below_set ?_ GE423.out) | exact HB.out)) hb); clear HO_9; clear HO_413000; clear HO_424000; clear HO427; clear BK412; clear BK423; clear HB; have HO_9 := n0_; have HO_413000 := n1_; have HO_424000 := n2_; have HO427 := n3_; have BK412 := n4_; have BK423 := n5_; have HB := n6_; clear n0_ n1_ n2_ n3_ n4_ n5_ n6_; (try clear hb); (try clear hb2); (try clear hk); (try clear hi)))
                  go_meet
                  case rel => exact ⟨_, (true), (by first | rfl | (simp; done) | (simp [*]; done)), H', ⟨by have := HJ8.out; first | omega | exact Nat.le_refl _⟩, ⟨by (with_reducible repeat (first | apply Kd.R_alloc | apply Kd.R_drewN | apply Kd.R_drew)); exact Kd.R_mono HO_413000.out (fun _ hk => hk.2.1)⟩, ⟨by (with_reducible repeat (first | apply Kd.R_alloc | apply Kd.R_drewN | apply Kd.R_drew)); exact Kd.R_mono HO_424000.out (fun _ hk => hk.2.1)⟩, ⟨by (with_reducible repeat (first | refine blk_drewN ?_ _ | refine blk_drew ?_ | refine blk_alloc ?_ _)); exact BK412.out⟩, ⟨by (with_reducible repeat (first | refine blk_drewN ?_ _ | refine blk_drew ?_ | refine blk_alloc ?_ _)); exact BK423.out⟩, ⟨by repeat (first | (with_reducible first | exact HB.out | apply below_alloc | apply pw_below_drewN | apply below_drew1 | refine below_set ?_ GE412.out | refine below_set ?_ GE423.out) | exact HB.out)⟩⟩
            case rest =>
              clear HC38
              try clear c1
              try clear c2
              try clear p2
              try clear c3
              try clear c4
              try clear c4b0
              try clear c4b1
              try clear c10
              try clear c20
              try clear c21
              try clear c22
              try clear c24
              try clear c25
              try clear c29
              try clear c30
              try clear c31
              try clear c33
              try clear c35
              try clear c36
              try clear c42
              try clear c42b0
              try clear c44
              try clear c45
              try clear c49
              try clear hcz15_0
              try clear hcz15_1
              try clear hcz15_2
              try clear hcz15_3
              try clear hcz22_0
              try clear hcz22_1
              try clear hcz22_2
              try clear hcz22_3
              try clear hcz26_0
              try clear hcz26_1
              try clear hcz26_2
              try clear hcz26_3
              try clear hcz27_0
              try clear hcz27_1
              try clear hcz27_2
              try clear hcz27_3
              try clear hcz30_0
              try clear hcz30_1
              try clear hcz30_2
              try clear hcz30_3
              try clear hcz31_0
              try clear hcz31_1
              try clear hcz31_2
              try clear hcz31_3
              try clear hcz46_0
              try clear hcz46_1
              try clear hcz46_2
              try clear hcz46_3
              try clear hcz47_0
              try clear hcz47_1
              try clear hcz47_2
              try clear hcz47_3
              try clear hcz50_0
              try clear hcz50_1
              try clear hcz50_2
              try clear hcz50_3
              try clear hcz51_0
              try clear hcz51_1
              try clear hcz51_2
              try clear hcz51_3
              try clear hfz15_0
              try clear hfz15_1
              try clear hfz15_2
              try clear hfz15_3
              try clear hfz22_0
              try clear hfz22_1
              try clear hfz22_2
              try clear hfz22_3
              try clear hfz26_0
              try clear hfz26_1
              try clear hfz26_2
              try clear hfz26_3
              try clear hfz27_0
              try clear hfz27_1
              try clear hfz27_2
              try clear hfz27_3
              try clear hfz30_0
              try clear hfz30_1
              try clear hfz30_2
              try clear hfz30_3
              try clear hfz31_0
              try clear hfz31_1
              try clear hfz31_2
              try clear hfz31_3
              try clear hfz46_0
              try clear hfz46_1
              try clear hfz46_2
              try clear hfz46_3
              try clear hfz47_0
              try clear hfz47_1
              try clear hfz47_2
              try clear hfz47_3
              try clear hfz50_0
              try clear hfz50_1
              try clear hfz50_2
              try clear hfz50_3
              try clear hfz51_0
              try clear hfz51_1
              try clear hfz51_2
              try clear hfz51_3
              try clear p2
              obtain ⟨kq, x66_37, rfl, HA, HJ37, HO_413000, HO_424000, BK412, BK423, HB⟩ := hcut
              cases kq with
              | zero => exact absurd HA.out (by simp [laws_FnExactRunToken.j1])
              | succ kj37 =>
                have H := HA.out
                clear HA
                simp only [laws_FnExactRunToken.j1] at H
                by_cases c53 : x66_37 = true
                · subst c53
                  have H1 : (some false) = some r := by rw [if_pos rfl] at H; exact H
                  clear H
                  have H := H1
                  clear H1
                  obtain rfl := Option.some.inj H
                  go_wp2
                  go_ret
                  exact ⟨by first | rfl | (simp [errW_none, errW_some] <;> rfl) | (simp [*, errW_none, errW_some] <;> rfl), by repeat (first | (with_reducible first | exact HB.out | apply below_alloc | apply pw_below_drewN | apply below_drew1 | refine below_set ?_ GE412.out | refine below_set ?_ GE423.out) | exact HB.out)⟩
                · replace c53 := Bool.eq_false_iff.mpr c53
                  subst c53
                  have H1 : ((laws_markTalkRun.f kj37 t416 t419 t420 t421 1).bind fun bt432 => ((laws_heldTalkRun.f kj37 bt432.2 t419 t420 t421 1).bind fun t434 => (if t434 < 0 then (some false) else (if t434 = bt432.1 then ((laws_toIntS.f kj37 l0).bind fun t435 => ((impl_RunToken.f kj37 t435 a1 a2).bind fun bt438 => ((laws_eqTalkRun.f kj37 bt438.1 bt438.2.1 bt438.2.2.1 bt438.2.2.2.1 t405 t408 t409 t410).bind fun t446 => (if t446 = true then (laws_FnExactRunToken.j2 kj37 bt432.1 (bt438.2.2.2.2 != t411) bt432.2 t419 t420 t421) else (laws_FnExactRunToken.j2 kj37 bt432.1 true bt432.2 t419 t420 t421))))) else (some false))))) = some r := by rw [if_neg (show ¬ (false = true) by decide)] at H; exact H
                  clear H
                  have H := H1
                  clear H1
                  replace H := Option.bind_eq_some_iff.mp H
                  obtain ⟨⟨t432, t433⟩, A540, H⟩ := H
                  replace H : ((laws_heldTalkRun.f kj37 t433 t419 t420 t421 1).bind fun t434 => (if t434 < 0 then (some false) else (if t434 = t432 then ((laws_toIntS.f kj37 l0).bind fun t435 => ((impl_RunToken.f kj37 t435 a1 a2).bind fun bt438 => ((laws_eqTalkRun.f kj37 bt438.1 bt438.2.1 bt438.2.2.1 bt438.2.2.2.1 t405 t408 t409 t410).bind fun t446 => (if t446 = true then (laws_FnExactRunToken.j2 kj37 t432 (bt438.2.2.2.2 != t411) t433 t419 t420 t421) else (laws_FnExactRunToken.j2 kj37 t432 true t433 t419 t420 t421))))) else (some false)))) = some r := H
                  have A54 := Aside0.mk A540
                  clear A540
                  replace H := Option.bind_eq_some_iff.mp H
                  obtain ⟨t434, A550, H⟩ := H
                  replace H : (if t434 < 0 then (some false) else (if t434 = t432 then ((laws_toIntS.f kj37 l0).bind fun t435 => ((impl_RunToken.f kj37 t435 a1 a2).bind fun bt438 => ((laws_eqTalkRun.f kj37 bt438.1 bt438.2.1 bt438.2.2.1 bt438.2.2.2.1 t405 t408 t409 t410).bind fun t446 => (if t446 = true then (laws_FnExactRunToken.j2 kj37 t432 (bt438.2.2.2.2 != t411) t433 t419 t420 t421) else (laws_FnExactRunToken.j2 kj37 t432 true t433 t419 t420 t421))))) else (some false))) = some r := H
                  have A55 := Aside0.mk A550
                  clear A550
                  by_cases c56 : t434 < 0
                  · rw [if_pos c56] at H
                    have c56b0 : decide (t434 < 0) = true := decide_eq_true c56
                    clear c56
                    obtain rfl := Option.some.inj H
                    have hnb57 := NB423_412.out
                    have hnc57 := NB412_423.out
                    have hcz58_0 : wc.cell? ⟨gb423, 0, none⟩ = some (.slice Ao20 t416.length co20) := (blk_cell BK423.out 0).trans rfl
                    have hcz58_1 : wc.cell? ⟨gb423, 1, none⟩ = some (.int .i64 t419) := (blk_cell BK423.out 1).trans rfl
                    have hcz58_2 : wc.cell? ⟨gb423, 2, none⟩ = some (.int .i64 t420) := (blk_cell BK423.out 2).trans rfl
                    have hcz58_3 : wc.cell? ⟨gb423, 3, none⟩ = some (.bool t421) := (blk_cell BK423.out 3).trans rfl
                    have hfz58_0 := blk_frozen BK423.out 0
                    have hfz58_1 := blk_frozen BK423.out 1
                    have hfz58_2 := blk_frozen BK423.out 2
                    have hfz58_3 := blk_frozen BK423.out 3
                    go_wp2_with (first | ((with_reducible refine gate_callee (f := 36) rfl ?_); refine goesL_ (some 69) rfl rfl Try.func36 (by kernel_rfl) rfl #[.agg #[.slice Ao20 t416.length co20, .int .i64 t419, .int .i64 t420, .bool t421], .int .i64 1] rfl (by (try simp only [List.map_toArray, List.map_cons, List.map_nil]); first | done | rfl | (simp only [List.length_drop, List.length_take]; rfl)) ?_; (with_reducible refine (laws_markTalkRun.calls kj37 (fun k_ => some k_ = (.slice Ao20 t416.length co20 : Value).ownBlock) (.slice Ao20 t416.length co20) t416 t419 t420 t421 1 t432 t433 w _ ?side1 ?side2 A54.out).mono ?_); (case side1 => repeat (first | (with_reducible first | exact HB.out | apply below_alloc | apply pw_below_drewN | apply below_drew1 | refine below_set ?_ GE412.out | refine below_set ?_ GE423.out) | exact HB.out)); (case side2 => exact Kd.R_tight rfl HO_424000.out); rintro e w59 ⟨rfl, hy0, hb, hkp⟩; refine ⟨_, rfl, ?_⟩; have n0_ := Aside0.mk (Kd.R_mono (ok' := fun k_ => some k_ ≠ (.slice Ao20 t416.length co20 : Value).ownBlock) (Kd.R_keptB (HO_413000.out) hkp (fun k_ hk_ hs_ => (hk_) hs_)) (fun k_ hk_ => hk_.1)); have n1_ := Aside0.mk (Kd.R_reok rfl hy0 (fun k_ e_ => HO_424000.out.1 k_ e_)); have n2_ := Aside0.mk (blk_kept (by (with_reducible repeat (first | refine blk_drewN ?_ _ | refine blk_drew ?_ | refine blk_alloc ?_ _)); exact BK412.out) hkp (fun hs_ => (fun e_ => (Kd.R_ne HO_424000.out BK412.out (by decide)) e_) hs_)); have n3_ := Aside0.mk (blk_kept (by (with_reducible repeat (first | refine blk_drewN ?_ _ | refine blk_drew ?_ | refine blk_alloc ?_ _)); exact BK423.out) hkp (fun hs_ => (fun e_ => (Kd.R_ne HO_424000.out BK423.out (by decide)) e_) hs_)); have n4_ := Aside0.mk (hb); clear HO_413000; clear HO_424000; clear BK412; clear BK423; clear HB; have HO_413000 := n0_; have HO_424000 := n1_; have BK412 := n2_; have BK423 := n3_; have HB := n4_; clear n0_ n1_ n2_ n3_ n4_; (try clear hb); (try clear hkp); (try clear hy0); have hcz60_0 : w59.cell? ⟨gb423, 0, none⟩ = some (.slice Ao20 t416.length co20) := (blk_cell BK423.out 0).trans rfl; have hcz60_1 : w59.cell? ⟨gb423, 1, none⟩ = some (.int .i64 t419) := (blk_cell BK423.out 1).trans rfl; have hcz60_2 : w59.cell? ⟨gb423, 2, none⟩ = some (.int .i64 t420) := (blk_cell BK423.out 2).trans rfl; have hcz60_3 : w59.cell? ⟨gb423, 3, none⟩ = some (.bool t421) := (blk_cell BK423.out 3).trans rfl; have hfz60_0 := blk_frozen BK423.out 0; have hfz60_1 := blk_frozen BK423.out 1; have hfz60_2 := blk_frozen BK423.out 2; have hfz60_3 := blk_frozen BK423.out 3) | ((with_reducible refine gate_callee (f := 37) rfl ?_); refine goesL_ (some 72) rfl rfl Try.func37 (by kernel_rfl) rfl #[.agg #[.slice Ao20 t433.length co20, .int .i64 t419, .int .i64 t420, .bool t421], .int .i64 1] rfl (by (try simp only [List.map_toArray, List.map_cons, List.map_nil]); first | done | (rw [show t433.length = t416.length from (Kd.R_reads' HO_424000.out).1.symm] <;> rfl) | rfl | (simp only [List.length_drop, List.length_take]; rfl)) ?_; (with_reducible refine (laws_heldTalkRun.calls kj37 _ _ t433 t419 t420 t421 1 t434 _ ?side1 ?side2 A55.out).mono ?_); (case side1 => repeat (first | exact (Kd.R_reads' HO_424000.out).2.2 | (with_reducible refine Kd.C_alloc ?_ _) | (with_reducible refine Kd.C_drewN ?_ _) | (with_reducible refine Kd.C_drew ?_))); (case side2 => rw [show t433.length = t416.length from (Kd.R_reads' HO_424000.out).1.symm]; exact (Kd.R_reads' HO_424000.out).2.1); rintro e w61 ⟨rfl, hb⟩; refine ⟨_, rfl, ?_⟩; have n0_ := Aside0.mk (Kd.R_below (by (with_reducible repeat (first | apply Kd.R_alloc | apply Kd.R_drewN | apply Kd.R_drew)); exact HO_413000.out) hb); have n1_ := Aside0.mk (Kd.R_below (by (with_reducible repeat (first | apply Kd.R_alloc | apply Kd.R_drewN | apply Kd.R_drew)); exact HO_424000.out) hb); have n2_ := Aside0.mk (blk_below (g := gb412) (o := .cells #[.slice Ao14 t405.length co14, .int .i64 t408, .int .i64 t409, .bool t410] 38 (0, 0)) (by (with_reducible repeat (first | refine blk_drewN ?_ _ | refine blk_drew ?_ | refine blk_alloc ?_ _)); exact BK412.out) hb); have n3_ := Aside0.mk (blk_below (g := gb423) (o := .cells #[.slice Ao20 t416.length co20, .int .i64 t419, .int .i64 t420, .bool t421] 38 (0, 0)) (by (with_reducible repeat (first | refine blk_drewN ?_ _ | refine blk_drew ?_ | refine blk_alloc ?_ _)); exact BK423.out) hb); have n4_ := Aside0.mk (below_step (by repeat (first | (with_reducible first | exact HB.out | apply below_alloc | apply pw_below_drewN | apply below_drew1 | refine below_set ?_ GE412.out | refine below_set ?_ GE423.out) | exact HB.out)) hb); clear HO_413000; clear HO_424000; clear BK412; clear BK423; clear HB; have HO_413000 := n0_; have HO_424000 := n1_; have BK412 := n2_; have BK423 := n3_; have HB := n4_; clear n0_ n1_ n2_ n3_ n4_; (try clear hb); (try clear hb2); (try clear hk); (try clear hi)))
                    go_ret
                    exact ⟨by first | rfl | (simp [errW_none, errW_some] <;> rfl) | (simp [*, errW_none, errW_some] <;> rfl), by repeat (first | (with_reducible first | exact HB.out | apply below_alloc | apply pw_below_drewN | apply below_drew1 | refine below_set ?_ GE412.out | refine below_set ?_ GE423.out) | exact HB.out)⟩
                  · rw [if_neg c56] at H
                    have c56b0 : decide (t434 < 0) = false := decide_eq_false c56
                    clear c56
                    by_cases c62 : t434 = t432
                    · rw [if_pos c62] at H
                      have c62b0 : (t434 == t432) = true := beq_iff_eq.mpr c62
                      have c62b1 : (t434 != t432) = false := bne_eq_false_iff_eq.mpr c62
                      clear c62
                      replace H := Option.bind_eq_some_iff.mp H
                      obtain ⟨t435, A630, H⟩ := H
                      replace H : ((impl_RunToken.f kj37 t435 a1 a2).bind fun bt438 => ((laws_eqTalkRun.f kj37 bt438.1 bt438.2.1 bt438.2.2.1 bt438.2.2.2.1 t405 t408 t409 t410).bind fun t446 => (if t446 = true then (laws_FnExactRunToken.j2 kj37 t432 (bt438.2.2.2.2 != t411) t433 t419 t420 t421) else (laws_FnExactRunToken.j2 kj37 t432 true t433 t419 t420 t421)))) = some r := H
                      have A63 := Aside0.mk A630
                      clear A630
                      replace H := Option.bind_eq_some_iff.mp H
                      obtain ⟨⟨t438, t441, t442, t443, t444⟩, A640, H⟩ := H
                      replace H : ((laws_eqTalkRun.f kj37 t438 t441 t442 t443 t405 t408 t409 t410).bind fun t446 => (if t446 = true then (laws_FnExactRunToken.j2 kj37 t432 (t444 != t411) t433 t419 t420 t421) else (laws_FnExactRunToken.j2 kj37 t432 true t433 t419 t420 t421))) = some r := H
                      have A64 := Aside0.mk A640
                      clear A640
                      have HC65 := Aside0.mk H
                      clear H
                      have hnb66 := NB423_412.out
                      have hnc66 := NB412_423.out
                      have hcz67_0 : wc.cell? ⟨gb423, 0, none⟩ = some (.slice Ao20 t416.length co20) := (blk_cell BK423.out 0).trans rfl
                      have hcz67_1 : wc.cell? ⟨gb423, 1, none⟩ = some (.int .i64 t419) := (blk_cell BK423.out 1).trans rfl
                      have hcz67_2 : wc.cell? ⟨gb423, 2, none⟩ = some (.int .i64 t420) := (blk_cell BK423.out 2).trans rfl
                      have hcz67_3 : wc.cell? ⟨gb423, 3, none⟩ = some (.bool t421) := (blk_cell BK423.out 3).trans rfl
                      have hfz67_0 := blk_frozen BK423.out 0
                      have hfz67_1 := blk_frozen BK423.out 1
                      have hfz67_2 := blk_frozen BK423.out 2
                      have hfz67_3 := blk_frozen BK423.out 3
                      go_upto_region 23 with (first | ((with_reducible refine gate_callee (f := 36) rfl ?_); refine goesL_ (some 69) rfl rfl Try.func36 (by kernel_rfl) rfl #[.agg #[.slice Ao20 t416.length co20, .int .i64 t419, .int .i64 t420, .bool t421], .int .i64 1] rfl (by (try simp only [List.map_toArray, List.map_cons, List.map_nil]); first | done | rfl | (simp only [List.length_drop, List.length_take]; rfl)) ?_; (with_reducible refine (laws_markTalkRun.calls kj37 (fun k_ => some k_ = (.slice Ao20 t416.length co20 : Value).ownBlock) (.slice Ao20 t416.length co20) t416 t419 t420 t421 1 t432 t433 w _ ?side1 ?side2 A54.out).mono ?_); (case side1 => repeat (first | (with_reducible first | exact HB.out | apply below_alloc | apply pw_below_drewN | apply below_drew1 | refine below_set ?_ GE412.out | refine below_set ?_ GE423.out) | exact HB.out)); (case side2 => exact Kd.R_tight rfl HO_424000.out); rintro e w68 ⟨rfl, hy0, hb, hkp⟩; refine ⟨_, rfl, ?_⟩; have n0_ := Aside0.mk (Kd.R_mono (ok' := fun k_ => some k_ ≠ (.slice Ao20 t416.length co20 : Value).ownBlock) (Kd.R_keptB (HO_413000.out) hkp (fun k_ hk_ hs_ => (hk_) hs_)) (fun k_ hk_ => hk_.1)); have n1_ := Aside0.mk (Kd.R_reok rfl hy0 (fun k_ e_ => HO_424000.out.1 k_ e_)); have n2_ := Aside0.mk (blk_kept (by (with_reducible repeat (first | refine blk_drewN ?_ _ | refine blk_drew ?_ | refine blk_alloc ?_ _)); exact BK412.out) hkp (fun hs_ => (fun e_ => (Kd.R_ne HO_424000.out BK412.out (by decide)) e_) hs_)); have n3_ := Aside0.mk (blk_kept (by (with_reducible repeat (first | refine blk_drewN ?_ _ | refine blk_drew ?_ | refine blk_alloc ?_ _)); exact BK423.out) hkp (fun hs_ => (fun e_ => (Kd.R_ne HO_424000.out BK423.out (by decide)) e_) hs_)); have n4_ := Aside0.mk (hb); clear HO_413000; clear HO_424000; clear BK412; clear BK423; clear HB; have HO_413000 := n0_; have HO_424000 := n1_; have BK412 := n2_; have BK423 := n3_; have HB := n4_; clear n0_ n1_ n2_ n3_ n4_; (try clear hb); (try clear hkp); (try clear hy0); have hcz69_0 : w68.cell? ⟨gb423, 0, none⟩ = some (.slice Ao20 t416.length co20) := (blk_cell BK423.out 0).trans rfl; have hcz69_1 : w68.cell? ⟨gb423, 1, none⟩ = some (.int .i64 t419) := (blk_cell BK423.out 1).trans rfl; have hcz69_2 : w68.cell? ⟨gb423, 2, none⟩ = some (.int .i64 t420) := (blk_cell BK423.out 2).trans rfl; have hcz69_3 : w68.cell? ⟨gb423, 3, none⟩ = some (.bool t421) := (blk_cell BK423.out 3).trans rfl; have hfz69_0 := blk_frozen BK423.out 0; have hfz69_1 := blk_frozen BK423.out 1; have hfz69_2 := blk_frozen BK423.out 2; have hfz69_3 := blk_frozen BK423.out 3) | ((with_reducible refine gate_callee (f := 37) rfl ?_); refine goesL_ (some 72) rfl rfl Try.func37 (by kernel_rfl) rfl #[.agg #[.slice Ao20 t433.length co20, .int .i64 t419, .int .i64 t420, .bool t421], .int .i64 1] rfl (by (try simp only [List.map_toArray, List.map_cons, List.map_nil]); first | done | (rw [show t433.length = t416.length from (Kd.R_reads' HO_424000.out).1.symm] <;> rfl) | rfl | (simp only [List.length_drop, List.length_take]; rfl)) ?_; (with_reducible refine (laws_heldTalkRun.calls kj37 _ _ t433 t419 t420 t421 1 t434 _ ?side1 ?side2 A55.out).mono ?_); (case side1 => repeat (first | exact (Kd.R_reads' HO_424000.out).2.2 | (with_reducible refine Kd.C_alloc ?_ _) | (with_reducible refine Kd.C_drewN ?_ _) | (with_reducible refine Kd.C_drew ?_))); (case side2 => rw [show t433.length = t416.length from (Kd.R_reads' HO_424000.out).1.symm]; exact (Kd.R_reads' HO_424000.out).2.1); rintro e w70 ⟨rfl, hb⟩; refine ⟨_, rfl, ?_⟩; have n0_ := Aside0.mk (Kd.R_below (by (with_reducible repeat (first | apply Kd.R_alloc | apply Kd.R_drewN | apply Kd.R_drew)); exact HO_413000.out) hb); have n1_ := Aside0.mk (Kd.R_below (by (with_reducible repeat (first | apply Kd.R_alloc | apply Kd.R_drewN | apply Kd.R_drew)); exact HO_424000.out) hb); have n2_ := Aside0.mk (blk_below (g := gb412) (o := .cells #[.slice Ao14 t405.length co14, .int .i64 t408, .int .i64 t409, .bool t410] 38 (0, 0)) (by (with_reducible repeat (first | refine blk_drewN ?_ _ | refine blk_drew ?_ | refine blk_alloc ?_ _)); exact BK412.out) hb); have n3_ := Aside0.mk (blk_below (g := gb423) (o := .cells #[.slice Ao20 t416.length co20, .int .i64 t419, .int .i64 t420, .bool t421] 38 (0, 0)) (by (with_reducible repeat (first | refine blk_drewN ?_ _ | refine blk_drew ?_ | refine blk_alloc ?_ _)); exact BK423.out) hb); have n4_ := Aside0.mk (below_step (by repeat (first | (with_reducible first | exact HB.out | apply below_alloc | apply pw_below_drewN | apply below_drew1 | refine below_set ?_ GE412.out | refine below_set ?_ GE423.out) | exact HB.out)) hb); clear HO_413000; clear HO_424000; clear BK412; clear BK423; clear HB; have HO_413000 := n0_; have HO_424000 := n1_; have BK412 := n2_; have BK423 := n3_; have HB := n4_; clear n0_ n1_ n2_ n3_ n4_; (try clear hb); (try clear hb2); (try clear hk); (try clear hi)) | ((with_reducible refine gate_callee (f := 20) rfl ?_); refine goesL_ (some 80) rfl rfl Try.func20 (by kernel_rfl) rfl #[.slice A0 l0.length c0] rfl (by (try simp only [List.map_toArray, List.map_cons, List.map_nil]); first | done | rfl | (simp only [List.length_drop, List.length_take]; rfl)) ?_; (with_reducible refine (laws_toIntS.calls kj37 _ _ l0 t435 _ ?side1 ?side2 A63.out).mono ?_); (case side1 => repeat (first | exact (Kd.C_below HR0.out HB.out) | (with_reducible refine Kd.C_alloc ?_ _) | (with_reducible refine Kd.C_drewN ?_ _) | (with_reducible refine Kd.C_drew ?_))); (case side2 => exact HC0.out); rintro e w71 ⟨v436, rfl, ho0, hb⟩; refine ⟨_, rfl, ?_⟩; have n0_ := Aside0.mk (Kd.R_elder' (by (with_reducible repeat (first | apply Kd.R_alloc | apply Kd.R_drewN | apply Kd.R_drew)); exact HO_413000.out) (Kd.R_base ho0) hb); have n1_ := Aside0.mk (Kd.R_elder' (by (with_reducible repeat (first | apply Kd.R_alloc | apply Kd.R_drewN | apply Kd.R_drew)); exact HO_424000.out) (Kd.R_base ho0) hb); have n2_ := Aside0.mk (Kd.R_lower (Kd.R_new' (Kd.R_new' ho0 (Kd.R_lt (by (with_reducible repeat (first | apply Kd.R_alloc | apply Kd.R_drewN | apply Kd.R_drew)); exact HO_413000.out))) (Kd.R_lt (by (with_reducible repeat (first | apply Kd.R_alloc | apply Kd.R_drewN | apply Kd.R_drew)); exact HO_424000.out))) (below_size (by repeat (first | (with_reducible first | exact HB.out | apply below_alloc | apply pw_below_drewN | apply below_drew1 | refine below_set ?_ GE412.out | refine below_set ?_ GE423.out) | exact HB.out)))); have n3_ := Aside0.mk (blk_below (g := gb412) (o := .cells #[.slice Ao14 t405.length co14, .int .i64 t408, .int .i64 t409, .bool t410] 38 (0, 0)) (by (with_reducible repeat (first | refine blk_drewN ?_ _ | refine blk_drew ?_ | refine blk_alloc ?_ _)); exact BK412.out) hb); have n4_ := Aside0.mk (blk_below (g := gb423) (o := .cells #[.slice Ao20 t416.length co20, .int .i64 t419, .int .i64 t420, .bool t421] 38 (0, 0)) (by (with_reducible repeat (first | refine blk_drewN ?_ _ | refine blk_drew ?_ | refine blk_alloc ?_ _)); exact BK423.out) hb); have n5_ := Aside0.mk (below_step (by repeat (first | (with_reducible first | exact HB.out | apply below_alloc | apply pw_below_drewN | apply below_drew1 | refine below_set ?_ GE412.out | refine below_set ?_ GE423.out) | exact HB.out)) hb); clear HO_413000; clear HO_424000; clear BK412; clear BK423; clear HB; have HO_413000 := n0_; have HO_424000 := n1_; have HO437 := n2_; have BK412 := n3_; have BK423 := n4_; have HB := n5_; clear n0_ n1_ n2_ n3_ n4_ n5_; (try clear hb); (try clear hb2); (try clear hk); (try clear hi); (try clear ho0); obtain ⟨Ao72, co72, eo72⟩ := Kd.R_slice HO437.out; subst eo72) | ((with_reducible refine gate_callee (f := 30) rfl ?_); refine goesL_ (some 83) rfl rfl Try.func30 (by kernel_rfl) rfl #[.slice Ao72 t435.length co72, .int .i64 a1, .int .i64 a2] rfl (by (try simp only [List.map_toArray, List.map_cons, List.map_nil]); first | done | rfl | (simp only [List.length_drop, List.length_take]; rfl)) ?_; (with_reducible refine (impl_RunToken.calls kj37 _ _ t435 a1 a2 t438 t441 t442 t443 t444 _ ?side1 ?side2 A64.out).mono ?_); (case side1 => repeat (first | exact (Kd.R_reads' HO437.out).2.2 | (with_reducible refine Kd.C_alloc ?_ _) | (with_reducible refine Kd.C_drewN ?_ _) | (with_reducible refine Kd.C_drew ?_))); (case side2 => exact (Kd.R_reads' HO437.out).2.1); rintro e w73 ⟨v439, rfl, ho0, hb⟩; refine ⟨_, rfl, ?_⟩; have n0_ := Aside0.mk (Kd.R_elder' (by (with_reducible repeat (first | apply Kd.R_alloc | apply Kd.R_drewN | apply Kd.R_drew)); exact HO_413000.out) (Kd.R_base ho0) hb); have n1_ := Aside0.mk (Kd.R_elder' (by (with_reducible repeat (first | apply Kd.R_alloc | apply Kd.R_drewN | apply Kd.R_drew)); exact HO_424000.out) (Kd.R_base ho0) hb); have n2_ := Aside0.mk (Kd.R_elder' (by (with_reducible repeat (first | apply Kd.R_alloc | apply Kd.R_drewN | apply Kd.R_drew)); exact HO437.out) (Kd.R_base ho0) hb); have n3_ := Aside0.mk (Kd.R_lower (Kd.R_new' (Kd.R_new' (Kd.R_new' ho0 (Kd.R_lt (by (with_reducible repeat (first | apply Kd.R_alloc | apply Kd.R_drewN | apply Kd.R_drew)); exact HO_413000.out))) (Kd.R_lt (by (with_reducible repeat (first | apply Kd.R_alloc | apply Kd.R_drewN | apply Kd.R_drew)); exact HO_424000.out))) (Kd.R_lt (by (with_reducible repeat (first | apply Kd.R_alloc | apply Kd.R_drewN | apply Kd.R_drew)); exact HO437.out))) (below_size (by repeat (first | (with_reducible first | exact HB.out | apply below_alloc | apply pw_below_drewN | apply below_drew1 | refine below_set ?_ GE412.out | refine below_set ?_ GE423.out) | exact HB.out)))); have n4_ := Aside0.mk (blk_below (g := gb412) (o := .cells #[.slice Ao14 t405.length co14, .int .i64 t408, .int .i64 t409, .bool t410] 38 (0, 0)) (by (with_reducible repeat (first | refine blk_drewN ?_ _ | refine blk_drew ?_ | refine blk_alloc ?_ _)); exact BK412.out) hb); have n5_ := Aside0.mk (blk_below (g := gb423) (o := .cells #[.slice Ao20 t416.length co20, .int .i64 t419, .int .i64 t420, .bool t421] 38 (0, 0)) (by (with_reducible repeat (first | refine blk_drewN ?_ _ | refine blk_drew ?_ | refine blk_alloc ?_ _)); exact BK423.out) hb); have n6_ := Aside0.mk (below_step (by repeat (first | (with_reducible first | exact HB.out | apply below_alloc | apply pw_below_drewN | apply below_drew1 | refine below_set ?_ GE412.out | refine below_set ?_ GE423.out) | exact HB.out)) hb); clear HO_413000; clear HO_424000; clear HO437; clear BK412; clear BK423; clear HB; have HO_413000 := n0_; have HO_424000 := n1_; have HO437 := n2_; have HO440 := n3_; have BK412 := n4_; have BK423 := n5_; have HB := n6_; clear n0_ n1_ n2_ n3_ n4_ n5_ n6_; (try clear hb); (try clear hb2); (try clear hk); (try clear hi); (try clear ho0)) | ((with_reducible refine gate_dst (N := 15) rfl ?_); refine box_event ?hg (N := 15) ?hd (cs := #[.slice none 0 0, .int .i64 0, .int .i64 0, .bool false]) (t := 38) ?hr ?_; (case hd => rfl); (case hg => rfl); (case hr => first | (go_simp; done) | (go_simp; rfl)); intro gb445 hg w74 hbox hb; have n0_ := Aside0.mk (Kd.R_below (by (with_reducible repeat (first | apply Kd.R_alloc | apply Kd.R_drewN | apply Kd.R_drew)); exact HO_413000.out) hb); have n1_ := Aside0.mk (Kd.R_below (by (with_reducible repeat (first | apply Kd.R_alloc | apply Kd.R_drewN | apply Kd.R_drew)); exact HO_424000.out) hb); have n2_ := Aside0.mk (Kd.R_below (by (with_reducible repeat (first | apply Kd.R_alloc | apply Kd.R_drewN | apply Kd.R_drew)); exact HO437.out) hb); have n3_ := Aside0.mk (Kd.R_below (by (with_reducible repeat (first | apply Kd.R_alloc | apply Kd.R_drewN | apply Kd.R_drew)); exact HO440.out) hb); have n4_ := Aside0.mk (blk_below (g := gb412) (o := .cells #[.slice Ao14 t405.length co14, .int .i64 t408, .int .i64 t409, .bool t410] 38 (0, 0)) (by (with_reducible repeat (first | refine blk_drewN ?_ _ | refine blk_drew ?_ | refine blk_alloc ?_ _)); exact BK412.out) hb); have n5_ := Aside0.mk (blk_below (g := gb423) (o := .cells #[.slice Ao20 t416.length co20, .int .i64 t419, .int .i64 t420, .bool t421] 38 (0, 0)) (by (with_reducible repeat (first | refine blk_drewN ?_ _ | refine blk_drew ?_ | refine blk_alloc ?_ _)); exact BK423.out) hb); have n6_ := Aside0.mk (below_step (by repeat (first | (with_reducible first | exact HB.out | apply below_alloc | apply pw_below_drewN | apply below_drew1 | refine below_set ?_ GE412.out | refine below_set ?_ GE423.out) | exact HB.out)) hb); have n7_ := Aside0.mk (hbox); have n8_ := Aside0.mk ((by rw [hg]; exact (below_size (by repeat (first | (with_reducible first | exact HB.out | apply below_alloc | apply pw_below_drewN | apply below_drew1 | refine below_set ?_ GE412.out | refine below_set ?_ GE423.out) | exact HB.out))) : w.heap.size ≤ gb445)); have n9_ := Aside0.mk ((by rw [hg]; exact (below_size (by repeat (first | (with_reducible first | exact HB.out | apply below_alloc | apply pw_below_drewN | apply below_drew1 | refine below_set ?_ GE412.out | refine below_set ?_ GE423.out) | exact HB.out))) : w.heap.size ≤ gb445)); have n10_ := Aside0.mk ((by rw [hg]; exact Nat.ne_of_lt (blk_lt (g := gb412) (o := .cells #[.slice Ao14 t405.length co14, .int .i64 t408, .int .i64 t409, .bool t410] 38 (0, 0)) (by (with_reducible repeat (first | refine blk_drewN ?_ _ | refine blk_drew ?_ | refine blk_alloc ?_ _)); exact BK412.out)) : gb412 ≠ gb445)); have n11_ := Aside0.mk ((by rw [hg]; exact Nat.ne_of_gt (blk_lt (g := gb412) (o := .cells #[.slice Ao14 t405.length co14, .int .i64 t408, .int .i64 t409, .bool t410] 38 (0, 0)) (by (with_reducible repeat (first | refine blk_drewN ?_ _ | refine blk_drew ?_ | refine blk_alloc ?_ _)); exact BK412.out)) : gb445 ≠ gb412)); have n12_ := Aside0.mk ((by rw [hg]; exact Nat.ne_of_lt (blk_lt (g := gb423) (o := .cells #[.slice Ao20 t416.length co20, .int .i64 t419, .int .i64 t420, .bool t421] 38 (0, 0)) (by (with_reducible repeat (first | refine blk_drewN ?_ _ | refine blk_drew ?_ | refine blk_alloc ?_ _)); exact BK423.out)) : gb423 ≠ gb445)); have n13_ := Aside0.mk ((by rw [hg]; exact Nat.ne_of_gt (blk_lt (g := gb423) (o := .cells #[.slice Ao20 t416.length co20, .int .i64 t419, .int .i64 t420, .bool t421] 38 (0, 0)) (by (with_reducible repeat (first | refine blk_drewN ?_ _ | refine blk_drew ?_ | refine blk_alloc ?_ _)); exact BK423.out)) : gb445 ≠ gb423)); clear HO_413000; clear HO_424000; clear HO437; clear HO440; clear BK412; clear BK423; clear HB; have HO_413000 := n0_; have HO_424000 := n1_; have HO437 := n2_; have HO440 := n3_; have BK412 := n4_; have BK423 := n5_; have HB := n6_; have BK445 := n7_; have GW445 := n8_; have GE445 := n9_; have NB412_445 := n10_; have NB445_412 := n11_; have NB423_445 := n12_; have NB445_423 := n13_; clear n0_ n1_ n2_ n3_ n4_ n5_ n6_ n7_ n8_ n9_ n10_ n11_ n12_ n13_; clear hb hbox hg; obtain ⟨Ao75, co75, eo75⟩ := Kd.R_slice HO440.out; subst eo75; have hnb76 := NB445_412.out; have hnc76 := NB412_445.out; have hnb77 := NB445_423.out; have hnc77 := NB423_445.out; have hcz78_0 : w74.cell? ⟨gb445, 0, none⟩ = some (.slice none 0 0) := (blk_cell BK445.out 0).trans rfl; have hcz78_1 : w74.cell? ⟨gb445, 1, none⟩ = some (.int .i64 0) := (blk_cell BK445.out 1).trans rfl; have hcz78_2 : w74.cell? ⟨gb445, 2, none⟩ = some (.int .i64 0) := (blk_cell BK445.out 2).trans rfl; have hcz78_3 : w74.cell? ⟨gb445, 3, none⟩ = some (.bool false) := (blk_cell BK445.out 3).trans rfl; have hfz78_0 := blk_frozen BK445.out 0; have hfz78_1 := blk_frozen BK445.out 1; have hfz78_2 := blk_frozen BK445.out 2; have hfz78_3 := blk_frozen BK445.out 3))
                      (try simp only [Act.put, List.setIfInBounds_toArray, List.set_cons_zero, List.set_cons_succ])
                      go_cut [94] (fun v94 wc => ∃ (kq : Nat) (x94_64 : Bool), v94 = .bool x94_64 ∧ Aside0 (laws_FnExactRunToken.j2 kq t432 x94_64 t433 t419 t420 t421 = some r) ∧ Aside0 (kq ≤ kj37) ∧ Aside0 (Kd.R (Kd.int .i64) 3 wc w.heap.size (fun k_ => some k_ ≠ ((.slice Ao20 t416.length co20) : Value).ownBlock ∧ some k_ ≠ ((.slice Ao75 t438.length co75) : Value).ownBlock) (.slice Ao14 t405.length co14) t405) ∧ Aside0 (Kd.R (Kd.int .i64) 3 wc w.heap.size (fun k_ => some k_ ≠ ((.slice Ao14 t405.length co14) : Value).ownBlock ∧ some k_ ≠ ((.slice Ao75 t438.length co75) : Value).ownBlock) (.slice Ao20 t416.length co20) t433) ∧ Aside0 (Kd.R (Kd.int .i64) 3 wc w.heap.size (fun k_ => some k_ ≠ ((.slice Ao14 t405.length co14) : Value).ownBlock ∧ some k_ ≠ ((.slice Ao20 t416.length co20) : Value).ownBlock) (.slice Ao75 t438.length co75) t438) ∧ Aside0 (wc.heap[gb412]? = some (.cells #[(.slice Ao14 t405.length co14), .int .i64 t408, .int .i64 t409, .bool t410] 38 (0, 0))) ∧ Aside0 (wc.heap[gb423]? = some (.cells #[(.slice Ao20 t416.length co20), .int .i64 t419, .int .i64 t420, .bool t421] 38 (0, 0))) ∧ Aside0 (wc.heap[gb445]? = some (.cells #[(.slice Ao75 t438.length co75), .int .i64 t441, .int .i64 t442, .bool t443] 38 (0, 0))) ∧ Aside0 (Below w.heap.size w wc))
                      case first =>
                        have H := HC65.out
                        clear HC65
                        replace H := Option.bind_eq_some_iff.mp H
                        obtain ⟨t446, A790, H⟩ := H
                        replace H : (if t446 = true then (laws_FnExactRunToken.j2 kj37 t432 (t444 != t411) t433 t419 t420 t421) else (laws_FnExactRunToken.j2 kj37 t432 true t433 t419 t420 t421)) = some r := H
                        have A79 := Aside0.mk A790
                        clear A790
                        by_cases c80 : t446 = true
                        · subst c80
                          have H1 : (laws_FnExactRunToken.j2 kj37 t432 (t444 != t411) t433 t419 t420 t421) = some r := by rw [if_pos rfl] at H; exact H
                          clear H
                          have H := H1
                          clear H1
                          have H' := Aside0.mk H
                          clear H
                          have hnb81 := NB445_412.out
                          have hnc81 := NB412_445.out
                          have hnb82 := NB445_423.out
                          have hnc82 := NB423_445.out
                          have hcz83_0 : w74.cell? ⟨gb445, 0, none⟩ = some (.slice none 0 0) := (blk_cell BK445.out 0).trans rfl
                          have hcz83_1 : w74.cell? ⟨gb445, 1, none⟩ = some (.int .i64 0) := (blk_cell BK445.out 1).trans rfl
                          have hcz83_2 : w74.cell? ⟨gb445, 2, none⟩ = some (.int .i64 0) := (blk_cell BK445.out 2).trans rfl
                          have hcz83_3 : w74.cell? ⟨gb445, 3, none⟩ = some (.bool false) := (blk_cell BK445.out 3).trans rfl
                          have hfz83_0 := blk_frozen BK445.out 0
                          have hfz83_1 := blk_frozen BK445.out 1
                          have hfz83_2 := blk_frozen BK445.out 2
                          have hfz83_3 := blk_frozen BK445.out 3
                          have hnb84 := NB412_423.out
                          have hnc84 := NB423_412.out
                          have hcz85_0 : w74.cell? ⟨gb412, 0, none⟩ = some (.slice Ao14 t405.length co14) := (blk_cell BK412.out 0).trans rfl
                          have hcz85_1 : w74.cell? ⟨gb412, 1, none⟩ = some (.int .i64 t408) := (blk_cell BK412.out 1).trans rfl
                          have hcz85_2 : w74.cell? ⟨gb412, 2, none⟩ = some (.int .i64 t409) := (blk_cell BK412.out 2).trans rfl
                          have hcz85_3 : w74.cell? ⟨gb412, 3, none⟩ = some (.bool t410) := (blk_cell BK412.out 3).trans rfl
                          have hfz85_0 := blk_frozen BK412.out 0
                          have hfz85_1 := blk_frozen BK412.out 1
                          have hfz85_2 := blk_frozen BK412.out 2
                          have hfz85_3 := blk_frozen BK412.out 3
                          go_wp2_with (first | ((with_reducible refine gate_callee (f := 35) rfl ?_); refine goesL_ (some 88) rfl rfl Try.func35 (by kernel_rfl) rfl #[.agg #[.slice Ao75 t438.length co75, .int .i64 t441, .int .i64 t442, .bool t443], .agg #[.slice Ao14 t405.length co14, .int .i64 t408, .int .i64 t409, .bool t410]] rfl (by (try simp only [List.map_toArray, List.map_cons, List.map_nil]); first | done | rfl | (simp only [List.length_drop, List.length_take]; rfl)) ?_; (with_reducible refine (laws_eqTalkRun.calls kj37 _ _ t438 t441 t442 t443 _ _ t405 t408 t409 t410 true _ ?side1 ?side2 ?side3 ?side4 A79.out).mono ?_); (case side1 => refine (Kd.R_reads' (e := 3) (base := w.heap.size) (ok := fun k_ => (((True ∧ some k_ ≠ (.slice Ao14 t405.length co14 : Value).ownBlock) ∧ some k_ ≠ (.slice Ao20 t416.length co20 : Value).ownBlock) ∧ some k_ ≠ (.slice Ao72 t435.length co72 : Value).ownBlock)) (n := t438.length) (c := co75) ?_).2.2; exact (by (with_reducible repeat (first | apply Kd.R_alloc | apply Kd.R_drewN | apply Kd.R_drew)); exact (Kd.R_mono (Kd.R_far (p := ⟨gb445, 3, none⟩) (Kd.R_far (p := ⟨gb445, 2, none⟩) (Kd.R_far (p := ⟨gb445, 1, none⟩) (Kd.R_far (p := ⟨gb445, 0, none⟩) (Kd.R_types HO440.out BK445.out (by decide)) (fun _ hk => hk.2) (.slice Ao75 t438.length co75)) (fun _ hk => hk.2) (.int .i64 t441)) (fun _ hk => hk.2) (.int .i64 t442)) (fun _ hk => hk.2) (.bool t443)) (fun _ h_ => h_.1)))); (case side2 => exact (Kd.R_reads' HO440.out).2.1); (case side3 => refine (Kd.R_reads' (e := 3) (base := w.heap.size) (ok := fun k_ => ((some k_ ≠ (.slice Ao20 t416.length co20 : Value).ownBlock ∧ some k_ ≠ (.slice Ao72 t435.length co72 : Value).ownBlock) ∧ some k_ ≠ (.slice Ao75 t438.length co75 : Value).ownBlock)) (n := t405.length) (c := co14) ?_).2.2; exact (by (with_reducible repeat (first | apply Kd.R_alloc | apply Kd.R_drewN | apply Kd.R_drew)); exact (Kd.R_mono (Kd.R_far (p := ⟨gb445, 3, none⟩) (Kd.R_far (p := ⟨gb445, 2, none⟩) (Kd.R_far (p := ⟨gb445, 1, none⟩) (Kd.R_far (p := ⟨gb445, 0, none⟩) (Kd.R_types HO_413000.out BK445.out (by decide)) (fun _ hk => hk.2) (.slice Ao75 t438.length co75)) (fun _ hk => hk.2) (.int .i64 t441)) (fun _ hk => hk.2) (.int .i64 t442)) (fun _ hk => hk.2) (.bool t443)) (fun _ h_ => h_.1)))); (case side4 => exact (Kd.R_reads' HO_413000.out).2.1); rintro e w86 ⟨rfl, hb⟩; refine ⟨_, rfl, ?_⟩; have n0_ := Aside0.mk (Kd.R_below (by (with_reducible repeat (first | apply Kd.R_alloc | apply Kd.R_drewN | apply Kd.R_drew)); exact (Kd.R_mono (Kd.R_far (p := ⟨gb445, 3, none⟩) (Kd.R_far (p := ⟨gb445, 2, none⟩) (Kd.R_far (p := ⟨gb445, 1, none⟩) (Kd.R_far (p := ⟨gb445, 0, none⟩) (Kd.R_types HO_413000.out BK445.out (by decide)) (fun _ hk => hk.2) (.slice Ao75 t438.length co75)) (fun _ hk => hk.2) (.int .i64 t441)) (fun _ hk => hk.2) (.int .i64 t442)) (fun _ hk => hk.2) (.bool t443)) (fun _ h_ => h_.1))) hb); have n1_ := Aside0.mk (Kd.R_below (by (with_reducible repeat (first | apply Kd.R_alloc | apply Kd.R_drewN | apply Kd.R_drew)); exact (Kd.R_mono (Kd.R_far (p := ⟨gb445, 3, none⟩) (Kd.R_far (p := ⟨gb445, 2, none⟩) (Kd.R_far (p := ⟨gb445, 1, none⟩) (Kd.R_far (p := ⟨gb445, 0, none⟩) (Kd.R_types HO_424000.out BK445.out (by decide)) (fun _ hk => hk.2) (.slice Ao75 t438.length co75)) (fun _ hk => hk.2) (.int .i64 t441)) (fun _ hk => hk.2) (.int .i64 t442)) (fun _ hk => hk.2) (.bool t443)) (fun _ h_ => h_.1))) hb); have n2_ := Aside0.mk (Kd.R_below (by (with_reducible repeat (first | apply Kd.R_alloc | apply Kd.R_drewN | apply Kd.R_drew)); exact (Kd.R_mono (Kd.R_far (p := ⟨gb445, 3, none⟩) (Kd.R_far (p := ⟨gb445, 2, none⟩) (Kd.R_far (p := ⟨gb445, 1, none⟩) (Kd.R_far (p := ⟨gb445, 0, none⟩) (Kd.R_types HO437.out BK445.out (by decide)) (fun _ hk => hk.2) (.slice Ao75 t438.length co75)) (fun _ hk => hk.2) (.int .i64 t441)) (fun _ hk => hk.2) (.int .i64 t442)) (fun _ hk => hk.2) (.bool t443)) (fun _ h_ => h_.1))) hb); have n3_ := Aside0.mk (Kd.R_below (by (with_reducible repeat (first | apply Kd.R_alloc | apply Kd.R_drewN | apply Kd.R_drew)); exact (Kd.R_mono (Kd.R_far (p := ⟨gb445, 3, none⟩) (Kd.R_far (p := ⟨gb445, 2, none⟩) (Kd.R_far (p := ⟨gb445, 1, none⟩) (Kd.R_far (p := ⟨gb445, 0, none⟩) (Kd.R_types HO440.out BK445.out (by decide)) (fun _ hk => hk.2) (.slice Ao75 t438.length co75)) (fun _ hk => hk.2) (.int .i64 t441)) (fun _ hk => hk.2) (.int .i64 t442)) (fun _ hk => hk.2) (.bool t443)) (fun _ h_ => h_.1))) hb); have n4_ := Aside0.mk (blk_below (g := gb412) (o := .cells #[.slice Ao14 t405.length co14, .int .i64 t408, .int .i64 t409, .bool t410] 38 (0, 0)) (by (with_reducible repeat (first | refine blk_drewN ?_ _ | refine blk_drew ?_ | refine blk_alloc ?_ _)); refine blk_far ?_ NB412_445.out _; (with_reducible repeat (first | refine blk_drewN ?_ _ | refine blk_drew ?_ | refine blk_alloc ?_ _)); refine blk_far ?_ NB412_445.out _; (with_reducible repeat (first | refine blk_drewN ?_ _ | refine blk_drew ?_ | refine blk_alloc ?_ _)); refine blk_far ?_ NB412_445.out _; (with_reducible repeat (first | refine blk_drewN ?_ _ | refine blk_drew ?_ | refine blk_alloc ?_ _)); refine blk_far ?_ NB412_445.out _; (with_reducible repeat (first | refine blk_drewN ?_ _ | refine blk_drew ?_ | refine blk_alloc ?_ _)); exact BK412.out) hb); have n5_ := Aside0.mk (blk_below (g := gb423) (o := .cells #[.slice Ao20 t416.length co20, .int .i64 t419, .int .i64 t420, .bool t421] 38 (0, 0)) (by (with_reducible repeat (first | refine blk_drewN ?_ _ | refine blk_drew ?_ | refine blk_alloc ?_ _)); refine blk_far ?_ NB423_445.out _; (with_reducible repeat (first | refine blk_drewN ?_ _ | refine blk_drew ?_ | refine blk_alloc ?_ _)); refine blk_far ?_ NB423_445.out _; (with_reducible repeat (first | refine blk_drewN ?_ _ | refine blk_drew ?_ | refine blk_alloc ?_ _)); refine blk_far ?_ NB423_445.out _; (with_reducible repeat (first | refine blk_drewN ?_ _ | refine blk_drew ?_ | refine blk_alloc ?_ _)); refine blk_far ?_ NB423_445.out _; (with_reducible repeat (first | refine blk_drewN ?_ _ | refine blk_drew ?_ | refine blk_alloc ?_ _)); exact BK423.out) hb); have n6_ := Aside0.mk (blk_below (g := gb445) (o := .cells #[.slice Ao75 t438.length co75, .int .i64 t441, .int .i64 t442, .bool t443] 38 (0, 0)) (by (with_reducible repeat (first | refine blk_drewN ?_ _ | refine blk_drew ?_ | refine blk_alloc ?_ _)); refine blk_put (cs := #[.slice Ao75 t438.length co75, .int .i64 t441, .int .i64 t442, .bool false]) ?_ 3 _ rfl; (with_reducible repeat (first | refine blk_drewN ?_ _ | refine blk_drew ?_ | refine blk_alloc ?_ _)); refine blk_put (cs := #[.slice Ao75 t438.length co75, .int .i64 t441, .int .i64 0, .bool false]) ?_ 2 _ rfl; (with_reducible repeat (first | refine blk_drewN ?_ _ | refine blk_drew ?_ | refine blk_alloc ?_ _)); refine blk_put (cs := #[.slice Ao75 t438.length co75, .int .i64 0, .int .i64 0, .bool false]) ?_ 1 _ rfl; (with_reducible repeat (first | refine blk_drewN ?_ _ | refine blk_drew ?_ | refine blk_alloc ?_ _)); refine blk_put (cs := #[.slice none 0 0, .int .i64 0, .int .i64 0, .bool false]) ?_ 0 _ rfl; (with_reducible repeat (first | refine blk_drewN ?_ _ | refine blk_drew ?_ | refine blk_alloc ?_ _)); exact BK445.out) hb); have n7_ := Aside0.mk (below_step (by repeat (first | (with_reducible first | exact HB.out | apply below_alloc | apply pw_below_drewN | apply below_drew1 | refine below_set ?_ GE412.out | refine below_set ?_ GE423.out | refine below_set ?_ GE445.out) | exact HB.out)) hb); clear HO_413000; clear HO_424000; clear HO437; clear HO440; clear BK412; clear BK423; clear BK445; clear HB; have HO_413000 := n0_; have HO_424000 := n1_; have HO437 := n2_; have HO440 := n3_; have BK412 := n4_; have BK423 := n5_; have BK445 := n6_; have HB := n7_; clear n0_ n1_ n2_ n3_ n4_ n5_ n6_ n7_; (try clear hb); (try clear hb2); (try clear hk); (try clear hi)))
                          go_meet
                          case rel => exact ⟨_, ((t444 != t411)), (by first | rfl | (simp; done) | (simp [*]; done)), H', ⟨by have := HJ8.out; have := HJ37.out; first | omega | exact Nat.le_refl _⟩, ⟨by (with_reducible repeat (first | apply Kd.R_alloc | apply Kd.R_drewN | apply Kd.R_drew)); exact Kd.R_mono HO_413000.out (fun _ hk => ⟨hk.1.1, hk.2⟩)⟩, ⟨by (with_reducible repeat (first | apply Kd.R_alloc | apply Kd.R_drewN | apply Kd.R_drew)); exact Kd.R_mono HO_424000.out (fun _ hk => ⟨hk.1.1, hk.2⟩)⟩, ⟨by (with_reducible repeat (first | apply Kd.R_alloc | apply Kd.R_drewN | apply Kd.R_drew)); exact Kd.R_mono HO440.out (fun _ hk => ⟨hk.1.1.2, hk.1.2⟩)⟩, ⟨by (with_reducible repeat (first | refine blk_drewN ?_ _ | refine blk_drew ?_ | refine blk_alloc ?_ _)); exact BK412.out⟩, ⟨by (with_reducible repeat (first | refine blk_drewN ?_ _ | refine blk_drew ?_ | refine blk_alloc ?_ _)); exact BK423.out⟩, ⟨by (with_reducible repeat (first | refine blk_drewN ?_ _ | refine blk_drew ?_ | refine blk_alloc ?_ _)); exact BK445.out⟩, ⟨by repeat (first | (with_reducible first | exact HB.out | apply below_alloc | apply pw_below_drewN | apply below_drew1 | refine below_set ?_ GE412.out | refine below_set ?_ GE423.out | refine below_set ?_ GE445.out) | exact HB.out)⟩⟩
                        · replace c80 := Bool.eq_false_iff.mpr c80
                          subst c80
                          have H1 : (laws_FnExactRunToken.j2 kj37 t432 true t433 t419 t420 t421) = some r := by rw [if_neg (show ¬ (false = true) by decide)] at H; exact H
                          clear H
                          have H := H1
                          clear H1
                          have H' := Aside0.mk H
                          clear H
                          have hnb87 := NB445_412.out
                          have hnc87 := NB412_445.out
                          have hnb88 := NB445_423.out
                          have hnc88 := NB423_445.out
                          have hcz89_0 : w74.cell? ⟨gb445, 0, none⟩ = some (.slice none 0 0) := (blk_cell BK445.out 0).trans rfl
                          have hcz89_1 : w74.cell? ⟨gb445, 1, none⟩ = some (.int .i64 0) := (blk_cell BK445.out 1).trans rfl
                          have hcz89_2 : w74.cell? ⟨gb445, 2, none⟩ = some (.int .i64 0) := (blk_cell BK445.out 2).trans rfl
                          have hcz89_3 : w74.cell? ⟨gb445, 3, none⟩ = some (.bool false) := (blk_cell BK445.out 3).trans rfl
                          have hfz89_0 := blk_frozen BK445.out 0
                          have hfz89_1 := blk_frozen BK445.out 1
                          have hfz89_2 := blk_frozen BK445.out 2
                          have hfz89_3 := blk_frozen BK445.out 3
                          have hnb90 := NB412_423.out
                          have hnc90 := NB423_412.out
                          have hcz91_0 : w74.cell? ⟨gb412, 0, none⟩ = some (.slice Ao14 t405.length co14) := (blk_cell BK412.out 0).trans rfl
                          have hcz91_1 : w74.cell? ⟨gb412, 1, none⟩ = some (.int .i64 t408) := (blk_cell BK412.out 1).trans rfl
                          have hcz91_2 : w74.cell? ⟨gb412, 2, none⟩ = some (.int .i64 t409) := (blk_cell BK412.out 2).trans rfl
                          have hcz91_3 : w74.cell? ⟨gb412, 3, none⟩ = some (.bool t410) := (blk_cell BK412.out 3).trans rfl
                          have hfz91_0 := blk_frozen BK412.out 0
                          have hfz91_1 := blk_frozen BK412.out 1
                          have hfz91_2 := blk_frozen BK412.out 2
                          have hfz91_3 := blk_frozen BK412.out 3
                          go_wp2_with (first | ((with_reducible refine gate_callee (f := 35) rfl ?_); refine goesL_ (some 88) rfl rfl Try.func35 (by kernel_rfl) rfl #[.agg #[.slice Ao75 t438.length co75, .int .i64 t441, .int .i64 t442, .bool t443], .agg #[.slice Ao14 t405.length co14, .int .i64 t408, .int .i64 t409, .bool t410]] rfl (by (try simp only [List.map_toArray, List.map_cons, List.map_nil]); first | done | rfl | (simp only [List.length_drop, List.length_take]; rfl)) ?_; (with_reducible refine (laws_eqTalkRun.calls kj37 _ _ t438 t441 t442 t443 _ _ t405 t408 t409 t410 false _ ?side1 ?side2 ?side3 ?side4 A79.out).mono ?_); (case side1 => refine (Kd.R_reads' (e := 3) (base := w.heap.size) (ok := fun k_ => (((True ∧ some k_ ≠ (.slice Ao14 t405.length co14 : Value).ownBlock) ∧ some k_ ≠ (.slice Ao20 t416.length co20 : Value).ownBlock) ∧ some k_ ≠ (.slice Ao72 t435.length co72 : Value).ownBlock)) (n := t438.length) (c := co75) ?_).2.2; exact (by (with_reducible repeat (first | apply Kd.R_alloc | apply Kd.R_drewN | apply Kd.R_drew)); exact (Kd.R_mono (Kd.R_far (p := ⟨gb445, 3, none⟩) (Kd.R_far (p := ⟨gb445, 2, none⟩) (Kd.R_far (p := ⟨gb445, 1, none⟩) (Kd.R_far (p := ⟨gb445, 0, none⟩) (Kd.R_types HO440.out BK445.out (by decide)) (fun _ hk => hk.2) (.slice Ao75 t438.length co75)) (fun _ hk => hk.2) (.int .i64 t441)) (fun _ hk => hk.2) (.int .i64 t442)) (fun _ hk => hk.2) (.bool t443)) (fun _ h_ => h_.1)))); (case side2 => exact (Kd.R_reads' HO440.out).2.1); (case side3 => refine (Kd.R_reads' (e := 3) (base := w.heap.size) (ok := fun k_ => ((some k_ ≠ (.slice Ao20 t416.length co20 : Value).ownBlock ∧ some k_ ≠ (.slice Ao72 t435.length co72 : Value).ownBlock) ∧ some k_ ≠ (.slice Ao75 t438.length co75 : Value).ownBlock)) (n := t405.length) (c := co14) ?_).2.2; exact (by (with_reducible repeat (first | apply Kd.R_alloc | apply Kd.R_drewN | apply Kd.R_drew)); exact (Kd.R_mono (Kd.R_far (p := ⟨gb445, 3, none⟩) (Kd.R_far (p := ⟨gb445, 2, none⟩) (Kd.R_far (p := ⟨gb445, 1, none⟩) (Kd.R_far (p := ⟨gb445, 0, none⟩) (Kd.R_types HO_413000.out BK445.out (by decide)) (fun _ hk => hk.2) (.slice Ao75 t438.length co75)) (fun _ hk => hk.2) (.int .i64 t441)) (fun _ hk => hk.2) (.int .i64 t442)) (fun _ hk => hk.2) (.bool t443)) (fun _ h_ => h_.1)))); (case side4 => exact (Kd.R_reads' HO_413000.out).2.1); rintro e w92 ⟨rfl, hb⟩; refine ⟨_, rfl, ?_⟩; have n0_ := Aside0.mk (Kd.R_below (by (with_reducible repeat (first | apply Kd.R_alloc | apply Kd.R_drewN | apply Kd.R_drew)); exact (Kd.R_mono (Kd.R_far (p := ⟨gb445, 3, none⟩) (Kd.R_far (p := ⟨gb445, 2, none⟩) (Kd.R_far (p := ⟨gb445, 1, none⟩) (Kd.R_far (p := ⟨gb445, 0, none⟩) (Kd.R_types HO_413000.out BK445.out (by decide)) (fun _ hk => hk.2) (.slice Ao75 t438.length co75)) (fun _ hk => hk.2) (.int .i64 t441)) (fun _ hk => hk.2) (.int .i64 t442)) (fun _ hk => hk.2) (.bool t443)) (fun _ h_ => h_.1))) hb); have n1_ := Aside0.mk (Kd.R_below (by (with_reducible repeat (first | apply Kd.R_alloc | apply Kd.R_drewN | apply Kd.R_drew)); exact (Kd.R_mono (Kd.R_far (p := ⟨gb445, 3, none⟩) (Kd.R_far (p := ⟨gb445, 2, none⟩) (Kd.R_far (p := ⟨gb445, 1, none⟩) (Kd.R_far (p := ⟨gb445, 0, none⟩) (Kd.R_types HO_424000.out BK445.out (by decide)) (fun _ hk => hk.2) (.slice Ao75 t438.length co75)) (fun _ hk => hk.2) (.int .i64 t441)) (fun _ hk => hk.2) (.int .i64 t442)) (fun _ hk => hk.2) (.bool t443)) (fun _ h_ => h_.1))) hb); have n2_ := Aside0.mk (Kd.R_below (by (with_reducible repeat (first | apply Kd.R_alloc | apply Kd.R_drewN | apply Kd.R_drew)); exact (Kd.R_mono (Kd.R_far (p := ⟨gb445, 3, none⟩) (Kd.R_far (p := ⟨gb445, 2, none⟩) (Kd.R_far (p := ⟨gb445, 1, none⟩) (Kd.R_far (p := ⟨gb445, 0, none⟩) (Kd.R_types HO437.out BK445.out (by decide)) (fun _ hk => hk.2) (.slice Ao75 t438.length co75)) (fun _ hk => hk.2) (.int .i64 t441)) (fun _ hk => hk.2) (.int .i64 t442)) (fun _ hk => hk.2) (.bool t443)) (fun _ h_ => h_.1))) hb); have n3_ := Aside0.mk (Kd.R_below (by (with_reducible repeat (first | apply Kd.R_alloc | apply Kd.R_drewN | apply Kd.R_drew)); exact (Kd.R_mono (Kd.R_far (p := ⟨gb445, 3, none⟩) (Kd.R_far (p := ⟨gb445, 2, none⟩) (Kd.R_far (p := ⟨gb445, 1, none⟩) (Kd.R_far (p := ⟨gb445, 0, none⟩) (Kd.R_types HO440.out BK445.out (by decide)) (fun _ hk => hk.2) (.slice Ao75 t438.length co75)) (fun _ hk => hk.2) (.int .i64 t441)) (fun _ hk => hk.2) (.int .i64 t442)) (fun _ hk => hk.2) (.bool t443)) (fun _ h_ => h_.1))) hb); have n4_ := Aside0.mk (blk_below (g := gb412) (o := .cells #[.slice Ao14 t405.length co14, .int .i64 t408, .int .i64 t409, .bool t410] 38 (0, 0)) (by (with_reducible repeat (first | refine blk_drewN ?_ _ | refine blk_drew ?_ | refine blk_alloc ?_ _)); refine blk_far ?_ NB412_445.out _; (with_reducible repeat (first | refine blk_drewN ?_ _ | refine blk_drew ?_ | refine blk_alloc ?_ _)); refine blk_far ?_ NB412_445.out _; (with_reducible repeat (first | refine blk_drewN ?_ _ | refine blk_drew ?_ | refine blk_alloc ?_ _)); refine blk_far ?_ NB412_445.out _; (with_reducible repeat (first | refine blk_drewN ?_ _ | refine blk_drew ?_ | refine blk_alloc ?_ _)); refine blk_far ?_ NB412_445.out _; (with_reducible repeat (first | refine blk_drewN ?_ _ | refine blk_drew ?_ | refine blk_alloc ?_ _)); exact BK412.out) hb); have n5_ := Aside0.mk (blk_below (g := gb423) (o := .cells #[.slice Ao20 t416.length co20, .int .i64 t419, .int .i64 t420, .bool t421] 38 (0, 0)) (by (with_reducible repeat (first | refine blk_drewN ?_ _ | refine blk_drew ?_ | refine blk_alloc ?_ _)); refine blk_far ?_ NB423_445.out _; (with_reducible repeat (first | refine blk_drewN ?_ _ | refine blk_drew ?_ | refine blk_alloc ?_ _)); refine blk_far ?_ NB423_445.out _; (with_reducible repeat (first | refine blk_drewN ?_ _ | refine blk_drew ?_ | refine blk_alloc ?_ _)); refine blk_far ?_ NB423_445.out _; (with_reducible repeat (first | refine blk_drewN ?_ _ | refine blk_drew ?_ | refine blk_alloc ?_ _)); refine blk_far ?_ NB423_445.out _; (with_reducible repeat (first | refine blk_drewN ?_ _ | refine blk_drew ?_ | refine blk_alloc ?_ _)); exact BK423.out) hb); have n6_ := Aside0.mk (blk_below (g := gb445) (o := .cells #[.slice Ao75 t438.length co75, .int .i64 t441, .int .i64 t442, .bool t443] 38 (0, 0)) (by (with_reducible repeat (first | refine blk_drewN ?_ _ | refine blk_drew ?_ | refine blk_alloc ?_ _)); refine blk_put (cs := #[.slice Ao75 t438.length co75, .int .i64 t441, .int .i64 t442, .bool false]) ?_ 3 _ rfl; (with_reducible repeat (first | refine blk_drewN ?_ _ | refine blk_drew ?_ | refine blk_alloc ?_ _)); refine blk_put (cs := #[.slice Ao75 t438.length co75, .int .i64 t441, .int .i64 0, .bool false]) ?_ 2 _ rfl; (with_reducible repeat (first | refine blk_drewN ?_ _ | refine blk_drew ?_ | refine blk_alloc ?_ _)); refine blk_put (cs := #[.slice Ao75 t438.length co75, .int .i64 0, .int .i64 0, .bool false]) ?_ 1 _ rfl; (with_reducible repeat (first | refine blk_drewN ?_ _ | refine blk_drew ?_ | refine blk_alloc ?_ _)); refine blk_put (cs := #[.slice none 0 0, .int .i64 0, .int .i64 0, .bool false]) ?_ 0 _ rfl; (with_reducible repeat (first | refine blk_drewN ?_ _ | refine blk_drew ?_ | refine blk_alloc ?_ _)); exact BK445.out) hb); have n7_ := Aside0.mk (below_step (by repeat (first | (with_reducible first | exact HB.out | apply below_alloc | apply pw_below_drewN | apply below_drew1 | refine below_set ?_ GE412.out | refine below_set ?_ GE423.out | refine below_set ?_ GE445.out) | exact HB.out)) hb); clear HO_413000; clear HO_424000; clear HO437; clear HO440; clear BK412; clear BK423; clear BK445; clear HB; have HO_413000 := n0_; have HO_424000 := n1_; have HO437 := n2_; have HO440 := n3_; have BK412 := n4_; have BK423 := n5_; have BK445 := n6_; have HB := n7_; clear n0_ n1_ n2_ n3_ n4_ n5_ n6_ n7_; (try clear hb); (try clear hb2); (try clear hk); (try clear hi)))
                          go_meet
                          case rel => exact ⟨_, (true), (by first | rfl | (simp; done) | (simp [*]; done)), H', ⟨by have := HJ8.out; have := HJ37.out; first | omega | exact Nat.le_refl _⟩, ⟨by (with_reducible repeat (first | apply Kd.R_alloc | apply Kd.R_drewN | apply Kd.R_drew)); exact Kd.R_mono HO_413000.out (fun _ hk => ⟨hk.1.1, hk.2⟩)⟩, ⟨by (with_reducible repeat (first | apply Kd.R_alloc | apply Kd.R_drewN | apply Kd.R_drew)); exact Kd.R_mono HO_424000.out (fun _ hk => ⟨hk.1.1, hk.2⟩)⟩, ⟨by (with_reducible repeat (first | apply Kd.R_alloc | apply Kd.R_drewN | apply Kd.R_drew)); exact Kd.R_mono HO440.out (fun _ hk => ⟨hk.1.1.2, hk.1.2⟩)⟩, ⟨by (with_reducible repeat (first | refine blk_drewN ?_ _ | refine blk_drew ?_ | refine blk_alloc ?_ _)); exact BK412.out⟩, ⟨by (with_reducible repeat (first | refine blk_drewN ?_ _ | refine blk_drew ?_ | refine blk_alloc ?_ _)); exact BK423.out⟩, ⟨by (with_reducible repeat (first | refine blk_drewN ?_ _ | refine blk_drew ?_ | refine blk_alloc ?_ _)); exact BK445.out⟩, ⟨by repeat (first | (with_reducible first | exact HB.out | apply below_alloc | apply pw_below_drewN | apply below_drew1 | refine below_set ?_ GE412.out | refine below_set ?_ GE423.out | refine below_set ?_ GE445.out) | exact HB.out)⟩⟩
                      case rest =>
                        clear HC65
                        try clear c1
                        try clear c2
                        try clear p2
                        try clear c3
                        try clear c4
                        try clear c4b0
                        try clear c4b1
                        try clear c5
                        try clear c6
                        try clear c7
                        try clear c8
                        try clear c9
                        try clear c10
                        try clear c20
                        try clear c21
                        try clear c22
                        try clear c24
                        try clear c25
                        try clear c29
                        try clear c30
                        try clear c31
                        try clear c33
                        try clear c35
                        try clear c36
                        try clear c37
                        try clear c42
                        try clear c42b0
                        try clear c44
                        try clear c45
                        try clear c49
                        try clear c53
                        try clear c56
                        try clear c56b0
                        try clear c57
                        try clear c62
                        try clear c62b0
                        try clear c62b1
                        try clear c66
                        try clear c76
                        try clear c77
                        try clear c80
                        try clear c81
                        try clear c82
                        try clear c84
                        try clear c87
                        try clear c88
                        try clear c90
                        try clear hcz15_0
                        try clear hcz15_1
                        try clear hcz15_2
                        try clear hcz15_3
                        try clear hcz22_0
                        try clear hcz22_1
                        try clear hcz22_2
                        try clear hcz22_3
                        try clear hcz26_0
                        try clear hcz26_1
                        try clear hcz26_2
                        try clear hcz26_3
                        try clear hcz27_0
                        try clear hcz27_1
                        try clear hcz27_2
                        try clear hcz27_3
                        try clear hcz30_0
                        try clear hcz30_1
                        try clear hcz30_2
                        try clear hcz30_3
                        try clear hcz31_0
                        try clear hcz31_1
                        try clear hcz31_2
                        try clear hcz31_3
                        try clear hcz46_0
                        try clear hcz46_1
                        try clear hcz46_2
                        try clear hcz46_3
                        try clear hcz47_0
                        try clear hcz47_1
                        try clear hcz47_2
                        try clear hcz47_3
                        try clear hcz50_0
                        try clear hcz50_1
                        try clear hcz50_2
                        try clear hcz50_3
                        try clear hcz51_0
                        try clear hcz51_1
                        try clear hcz51_2
                        try clear hcz51_3
                        try clear hcz58_0
                        try clear hcz58_1
                        try clear hcz58_2
                        try clear hcz58_3
                        try clear hcz60_0
                        try clear hcz60_1
                        try clear hcz60_2
                        try clear hcz60_3
                        try clear hcz67_0
                        try clear hcz67_1
                        try clear hcz67_2
                        try clear hcz67_3
                        try clear hcz69_0
                        try clear hcz69_1
                        try clear hcz69_2
                        try clear hcz69_3
                        try clear hcz78_0
                        try clear hcz78_1
                        try clear hcz78_2
                        try clear hcz78_3
                        try clear hcz83_0
                        try clear hcz83_1
                        try clear hcz83_2
                        try clear hcz83_3
                        try clear hcz85_0
                        try clear hcz85_1
                        try clear hcz85_2
                        try clear hcz85_3
                        try clear hcz89_0
                        try clear hcz89_1
                        try clear hcz89_2
                        try clear hcz89_3
                        try clear hcz91_0
                        try clear hcz91_1
                        try clear hcz91_2
                        try clear hcz91_3
                        try clear hfz15_0
                        try clear hfz15_1
                        try clear hfz15_2
                        try clear hfz15_3
                        try clear hfz22_0
                        try clear hfz22_1
                        try clear hfz22_2
                        try clear hfz22_3
                        try clear hfz26_0
                        try clear hfz26_1
                        try clear hfz26_2
                        try clear hfz26_3
                        try clear hfz27_0
                        try clear hfz27_1
                        try clear hfz27_2
                        try clear hfz27_3
                        try clear hfz30_0
                        try clear hfz30_1
                        try clear hfz30_2
                        try clear hfz30_3
                        try clear hfz31_0
                        try clear hfz31_1
                        try clear hfz31_2
                        try clear hfz31_3
                        try clear hfz46_0
                        try clear hfz46_1
                        try clear hfz46_2
                        try clear hfz46_3
                        try clear hfz47_0
                        try clear hfz47_1
                        try clear hfz47_2
                        try clear hfz47_3
                        try clear hfz50_0
                        try clear hfz50_1
                        try clear hfz50_2
                        try clear hfz50_3
                        try clear hfz51_0
                        try clear hfz51_1
                        try clear hfz51_2
                        try clear hfz51_3
                        try clear hfz58_0
                        try clear hfz58_1
                        try clear hfz58_2
                        try clear hfz58_3
                        try clear hfz60_0
                        try clear hfz60_1
                        try clear hfz60_2
                        try clear hfz60_3
                        try clear hfz67_0
                        try clear hfz67_1
                        try clear hfz67_2
                        try clear hfz67_3
                        try clear hfz69_0
                        try clear hfz69_1
                        try clear hfz69_2
                        try clear hfz69_3
                        try clear hfz78_0
                        try clear hfz78_1
                        try clear hfz78_2
                        try clear hfz78_3
                        try clear hfz83_0
                        try clear hfz83_1
                        try clear hfz83_2
                        try clear hfz83_3
                        try clear hfz85_0
                        try clear hfz85_1
                        try clear hfz85_2
                        try clear hfz85_3
                        try clear hfz89_0
                        try clear hfz89_1
                        try clear hfz89_2
                        try clear hfz89_3
                        try clear hfz91_0
                        try clear hfz91_1
                        try clear hfz91_2
                        try clear hfz91_3
                        try clear p2
                        obtain ⟨kq, x94_64, rfl, HA, HJ64, HO_413000, HO_424000, HO_446000, BK412, BK423, BK445, HB⟩ := hcut
                        have hl424000_64 := (Kd.R_reads' HO_424000.out).1
                        rw [hl424000_64] at HO_424000
                        (try simp only [hl424000_64])
                        (try simp only [hl424000_64] at BK412)
                        (try simp only [hl424000_64] at BK423)
                        (try simp only [hl424000_64] at BK445)
                        (try simp only [hl424000_64] at HO_413000)
                        (try simp only [hl424000_64] at HO_446000)
                        cases kq with
                        | zero => exact absurd HA.out (by simp [laws_FnExactRunToken.j2])
                        | succ kj64 =>
                          have H := HA.out
                          clear HA
                          simp only [laws_FnExactRunToken.j2] at H
                          by_cases c93 : x94_64 = true
                          · subst c93
                            have H1 : (some false) = some r := by rw [if_pos rfl] at H; exact H
                            clear H
                            have H := H1
                            clear H1
                            obtain rfl := Option.some.inj H
                            go_wp2
                            go_ret
                            exact ⟨by first | rfl | (simp [errW_none, errW_some] <;> rfl) | (simp [*, errW_none, errW_some] <;> rfl), by repeat (first | (with_reducible first | exact HB.out | apply below_alloc | apply pw_below_drewN | apply below_drew1 | refine below_set ?_ GE412.out | refine below_set ?_ GE423.out | refine below_set ?_ GE445.out) | exact HB.out)⟩
                          · replace c93 := Bool.eq_false_iff.mpr c93
                            subst c93
                            have H1 : ((laws_heldTalkRun.f kj64 t433 t419 t420 t421 1).bind fun t447 => (if t447 < 0 then (some false) else (if t447 = t432 then (some true) else (some false)))) = some r := by rw [if_neg (show ¬ (false = true) by decide)] at H; exact H
                            clear H
                            have H := H1
                            clear H1
                            replace H := Option.bind_eq_some_iff.mp H
                            obtain ⟨t447, A940, H⟩ := H
                            replace H : (if t447 < 0 then (some false) else (if t447 = t432 then (some true) else (some false))) = some r := H
                            have A94 := Aside0.mk A940
                            clear A940
                            by_cases c95 : t447 < 0
                            · rw [if_pos c95] at H
                              have c95b0 : decide (t447 < 0) = true := decide_eq_true c95
                              clear c95
                              obtain rfl := Option.some.inj H
                              have hnb96 := NB423_412.out
                              have hnc96 := NB412_423.out
                              have hnb97 := NB423_445.out
                              have hnc97 := NB445_423.out
                              have hcz98_0 : wc.cell? ⟨gb423, 0, none⟩ = some (.slice Ao20 t433.length co20) := (blk_cell BK423.out 0).trans rfl
                              have hcz98_1 : wc.cell? ⟨gb423, 1, none⟩ = some (.int .i64 t419) := (blk_cell BK423.out 1).trans rfl
                              have hcz98_2 : wc.cell? ⟨gb423, 2, none⟩ = some (.int .i64 t420) := (blk_cell BK423.out 2).trans rfl
                              have hcz98_3 : wc.cell? ⟨gb423, 3, none⟩ = some (.bool t421) := (blk_cell BK423.out 3).trans rfl
                              have hfz98_0 := blk_frozen BK423.out 0
                              have hfz98_1 := blk_frozen BK423.out 1
                              have hfz98_2 := blk_frozen BK423.out 2
                              have hfz98_3 := blk_frozen BK423.out 3
                              go_wp2_with (first | ((with_reducible refine gate_callee (f := 37) rfl ?_); refine goesL_ (some 97) rfl rfl Try.func37 (by kernel_rfl) rfl #[.agg #[.slice Ao20 t433.length co20, .int .i64 t419, .int .i64 t420, .bool t421], .int .i64 1] rfl (by (try simp only [List.map_toArray, List.map_cons, List.map_nil]); first | done | rfl | (simp only [List.length_drop, List.length_take]; rfl)) ?_; (with_reducible refine (laws_heldTalkRun.calls kj64 _ _ t433 t419 t420 t421 1 t447 _ ?side1 ?side2 A94.out).mono ?_); (case side1 => repeat (first | exact (Kd.R_reads' HO_424000.out).2.2 | (with_reducible refine Kd.C_alloc ?_ _) | (with_reducible refine Kd.C_drewN ?_ _) | (with_reducible refine Kd.C_drew ?_))); (case side2 => exact (Kd.R_reads' HO_424000.out).2.1); rintro e w99 ⟨rfl, hb⟩; refine ⟨_, rfl, ?_⟩; have n0_ := Aside0.mk (Kd.R_below (by (with_reducible repeat (first | apply Kd.R_alloc | apply Kd.R_drewN | apply Kd.R_drew)); exact HO_413000.out) hb); have n1_ := Aside0.mk (Kd.R_below (by (with_reducible repeat (first | apply Kd.R_alloc | apply Kd.R_drewN | apply Kd.R_drew)); exact HO_424000.out) hb); have n2_ := Aside0.mk (Kd.R_below (by (with_reducible repeat (first | apply Kd.R_alloc | apply Kd.R_drewN | apply Kd.R_drew)); exact HO_446000.out) hb); have n3_ := Aside0.mk (blk_below (g := gb412) (o := .cells #[.slice Ao14 t405.length co14, .int .i64 t408, .int .i64 t409, .bool t410] 38 (0, 0)) (by (with_reducible repeat (first | refine blk_drewN ?_ _ | refine blk_drew ?_ | refine blk_alloc ?_ _)); exact BK412.out) hb); have n4_ := Aside0.mk (blk_below (g := gb423) (o := .cells #[.slice Ao20 t433.length co20, .int .i64 t419, .int .i64 t420, .bool t421] 38 (0, 0)) (by (with_reducible repeat (first | refine blk_drewN ?_ _ | refine blk_drew ?_ | refine blk_alloc ?_ _)); exact BK423.out) hb); have n5_ := Aside0.mk (blk_below (g := gb445) (o := .cells #[.slice Ao75 t438.length co75, .int .i64 t441, .int .i64 t442, .bool t443] 38 (0, 0)) (by (with_reducible repeat (first | refine blk_drewN ?_ _ | refine blk_drew ?_ | refine blk_alloc ?_ _)); exact BK445.out) hb); have n6_ := Aside0.mk (below_step (by repeat (first | (with_reducible first | exact HB.out | apply below_alloc | apply pw_below_drewN | apply below_drew1 | refine below_set ?_ GE412.out | refine below_set ?_ GE423.out | refine below_set ?_ GE445.out) | exact HB.out)) hb); clear HO_413000; clear HO_424000; clear HO_446000; clear BK412; clear BK423; clear BK445; clear HB; have HO_413000 := n0_; have HO_424000 := n1_; have HO_446000 := n2_; have BK412 := n3_; have BK423 := n4_; have BK445 := n5_; have HB := n6_; clear n0_ n1_ n2_ n3_ n4_ n5_ n6_; (try clear hb); (try clear hb2); (try clear hk); (try clear hi)))
                              go_ret
                              exact ⟨by first | rfl | (simp [errW_none, errW_some] <;> rfl) | (simp [*, errW_none, errW_some] <;> rfl), by repeat (first | (with_reducible first | exact HB.out | apply below_alloc | apply pw_below_drewN | apply below_drew1 | refine below_set ?_ GE412.out | refine below_set ?_ GE423.out | refine below_set ?_ GE445.out) | exact HB.out)⟩
                            · rw [if_neg c95] at H
                              have c95b0 : decide (t447 < 0) = false := decide_eq_false c95
                              clear c95
                              by_cases c100 : t447 = t432
                              · rw [if_pos c100] at H
                                have c100b0 : (t447 == t432) = true := beq_iff_eq.mpr c100
                                have c100b1 : (t447 != t432) = false := bne_eq_false_iff_eq.mpr c100
                                clear c100
                                obtain rfl := Option.some.inj H
                                have hnb101 := NB423_412.out
                                have hnc101 := NB412_423.out
                                have hnb102 := NB423_445.out
                                have hnc102 := NB445_423.out
                                have hcz103_0 : wc.cell? ⟨gb423, 0, none⟩ = some (.slice Ao20 t433.length co20) := (blk_cell BK423.out 0).trans rfl
                                have hcz103_1 : wc.cell? ⟨gb423, 1, none⟩ = some (.int .i64 t419) := (blk_cell BK423.out 1).trans rfl
                                have hcz103_2 : wc.cell? ⟨gb423, 2, none⟩ = some (.int .i64 t420) := (blk_cell BK423.out 2).trans rfl
                                have hcz103_3 : wc.cell? ⟨gb423, 3, none⟩ = some (.bool t421) := (blk_cell BK423.out 3).trans rfl
                                have hfz103_0 := blk_frozen BK423.out 0
                                have hfz103_1 := blk_frozen BK423.out 1
                                have hfz103_2 := blk_frozen BK423.out 2
                                have hfz103_3 := blk_frozen BK423.out 3
                                go_wp2_with (first | ((with_reducible refine gate_callee (f := 37) rfl ?_); refine goesL_ (some 97) rfl rfl Try.func37 (by kernel_rfl) rfl #[.agg #[.slice Ao20 t433.length co20, .int .i64 t419, .int .i64 t420, .bool t421], .int .i64 1] rfl (by (try simp only [List.map_toArray, List.map_cons, List.map_nil]); first | done | rfl | (simp only [List.length_drop, List.length_take]; rfl)) ?_; (with_reducible refine (laws_heldTalkRun.calls kj64 _ _ t433 t419 t420 t421 1 t447 _ ?side1 ?side2 A94.out).mono ?_); (case side1 => repeat (first | exact (Kd.R_reads' HO_424000.out).2.2 | (with_reducible refine Kd.C_alloc ?_ _) | (with_reducible refine Kd.C_drewN ?_ _) | (with_reducible refine Kd.C_drew ?_))); (case side2 => exact (Kd.R_reads' HO_424000.out).2.1); rintro e w104 ⟨rfl, hb⟩; refine ⟨_, rfl, ?_⟩; have n0_ := Aside0.mk (Kd.R_below (by (with_reducible repeat (first | apply Kd.R_alloc | apply Kd.R_drewN | apply Kd.R_drew)); exact HO_413000.out) hb); have n1_ := Aside0.mk (Kd.R_below (by (with_reducible repeat (first | apply Kd.R_alloc | apply Kd.R_drewN | apply Kd.R_drew)); exact HO_424000.out) hb); have n2_ := Aside0.mk (Kd.R_below (by (with_reducible repeat (first | apply Kd.R_alloc | apply Kd.R_drewN | apply Kd.R_drew)); exact HO_446000.out) hb); have n3_ := Aside0.mk (blk_below (g := gb412) (o := .cells #[.slice Ao14 t405.length co14, .int .i64 t408, .int .i64 t409, .bool t410] 38 (0, 0)) (by (with_reducible repeat (first | refine blk_drewN ?_ _ | refine blk_drew ?_ | refine blk_alloc ?_ _)); exact BK412.out) hb); have n4_ := Aside0.mk (blk_below (g := gb423) (o := .cells #[.slice Ao20 t433.length co20, .int .i64 t419, .int .i64 t420, .bool t421] 38 (0, 0)) (by (with_reducible repeat (first | refine blk_drewN ?_ _ | refine blk_drew ?_ | refine blk_alloc ?_ _)); exact BK423.out) hb); have n5_ := Aside0.mk (blk_below (g := gb445) (o := .cells #[.slice Ao75 t438.length co75, .int .i64 t441, .int .i64 t442, .bool t443] 38 (0, 0)) (by (with_reducible repeat (first | refine blk_drewN ?_ _ | refine blk_drew ?_ | refine blk_alloc ?_ _)); exact BK445.out) hb); have n6_ := Aside0.mk (below_step (by repeat (first | (with_reducible first | exact HB.out | apply below_alloc | apply pw_below_drewN | apply below_drew1 | refine below_set ?_ GE412.out | refine below_set ?_ GE423.out | refine below_set ?_ GE445.out) | exact HB.out)) hb); clear HO_413000; clear HO_424000; clear HO_446000; clear BK412; clear BK423; clear BK445; clear HB; have HO_413000 := n0_; have HO_424000 := n1_; have HO_446000 := n2_; have BK412 := n3_; have BK423 := n4_; have BK445 := n5_; have HB := n6_; clear n0_ n1_ n2_ n3_ n4_ n5_ n6_; (try clear hb); (try clear hb2); (try clear hk); (try clear hi)))
                                go_ret
                                exact ⟨by first | rfl | (simp [errW_none, errW_some] <;> rfl) | (simp [*, errW_none, errW_some] <;> rfl), by repeat (first | (with_reducible first | exact HB.out | apply below_alloc | apply pw_below_drewN | apply below_drew1 | refine below_set ?_ GE412.out | refine below_set ?_ GE423.out | refine below_set ?_ GE445.out) | exact HB.out)⟩
                              · rw [if_neg c100] at H
                                have c100b0 : (t447 == t432) = false := beq_eq_false_iff_ne.mpr c100
                                have c100b1 : (t447 != t432) = true := bne_iff_ne.mpr c100
                                obtain rfl := Option.some.inj H
                                have hnb105 := NB423_412.out
                                have hnc105 := NB412_423.out
                                have hnb106 := NB423_445.out
                                have hnc106 := NB445_423.out
                                have hcz107_0 : wc.cell? ⟨gb423, 0, none⟩ = some (.slice Ao20 t433.length co20) := (blk_cell BK423.out 0).trans rfl
                                have hcz107_1 : wc.cell? ⟨gb423, 1, none⟩ = some (.int .i64 t419) := (blk_cell BK423.out 1).trans rfl
                                have hcz107_2 : wc.cell? ⟨gb423, 2, none⟩ = some (.int .i64 t420) := (blk_cell BK423.out 2).trans rfl
                                have hcz107_3 : wc.cell? ⟨gb423, 3, none⟩ = some (.bool t421) := (blk_cell BK423.out 3).trans rfl
                                have hfz107_0 := blk_frozen BK423.out 0
                                have hfz107_1 := blk_frozen BK423.out 1
                                have hfz107_2 := blk_frozen BK423.out 2
                                have hfz107_3 := blk_frozen BK423.out 3
                                go_wp2_with (first | ((with_reducible refine gate_callee (f := 37) rfl ?_); refine goesL_ (some 97) rfl rfl Try.func37 (by kernel_rfl) rfl #[.agg #[.slice Ao20 t433.length co20, .int .i64 t419, .int .i64 t420, .bool t421], .int .i64 1] rfl (by (try simp only [List.map_toArray, List.map_cons, List.map_nil]); first | done | rfl | (simp only [List.length_drop, List.length_take]; rfl)) ?_; (with_reducible refine (laws_heldTalkRun.calls kj64 _ _ t433 t419 t420 t421 1 t447 _ ?side1 ?side2 A94.out).mono ?_); (case side1 => repeat (first | exact (Kd.R_reads' HO_424000.out).2.2 | (with_reducible refine Kd.C_alloc ?_ _) | (with_reducible refine Kd.C_drewN ?_ _) | (with_reducible refine Kd.C_drew ?_))); (case side2 => exact (Kd.R_reads' HO_424000.out).2.1); rintro e w108 ⟨rfl, hb⟩; refine ⟨_, rfl, ?_⟩; have n0_ := Aside0.mk (Kd.R_below (by (with_reducible repeat (first | apply Kd.R_alloc | apply Kd.R_drewN | apply Kd.R_drew)); exact HO_413000.out) hb); have n1_ := Aside0.mk (Kd.R_below (by (with_reducible repeat (first | apply Kd.R_alloc | apply Kd.R_drewN | apply Kd.R_drew)); exact HO_424000.out) hb); have n2_ := Aside0.mk (Kd.R_below (by (with_reducible repeat (first | apply Kd.R_alloc | apply Kd.R_drewN | apply Kd.R_drew)); exact HO_446000.out) hb); have n3_ := Aside0.mk (blk_below (g := gb412) (o := .cells #[.slice Ao14 t405.length co14, .int .i64 t408, .int .i64 t409, .bool t410] 38 (0, 0)) (by (with_reducible repeat (first | refine blk_drewN ?_ _ | refine blk_drew ?_ | refine blk_alloc ?_ _)); exact BK412.out) hb); have n4_ := Aside0.mk (blk_below (g := gb423) (o := .cells #[.slice Ao20 t433.length co20, .int .i64 t419, .int .i64 t420, .bool t421] 38 (0, 0)) (by (with_reducible repeat (first | refine blk_drewN ?_ _ | refine blk_drew ?_ | refine blk_alloc ?_ _)); exact BK423.out) hb); have n5_ := Aside0.mk (blk_below (g := gb445) (o := .cells #[.slice Ao75 t438.length co75, .int .i64 t441, .int .i64 t442, .bool t443] 38 (0, 0)) (by (with_reducible repeat (first | refine blk_drewN ?_ _ | refine blk_drew ?_ | refine blk_alloc ?_ _)); exact BK445.out) hb); have n6_ := Aside0.mk (below_step (by repeat (first | (with_reducible first | exact HB.out | apply below_alloc | apply pw_below_drewN | apply below_drew1 | refine below_set ?_ GE412.out | refine below_set ?_ GE423.out | refine below_set ?_ GE445.out) | exact HB.out)) hb); clear HO_413000; clear HO_424000; clear HO_446000; clear BK412; clear BK423; clear BK445; clear HB; have HO_413000 := n0_; have HO_424000 := n1_; have HO_446000 := n2_; have BK412 := n3_; have BK423 := n4_; have BK445 := n5_; have HB := n6_; clear n0_ n1_ n2_ n3_ n4_ n5_ n6_; (try clear hb); (try clear hb2); (try clear hk); (try clear hi)))
                                go_ret
                                exact ⟨by first | rfl | (simp [errW_none, errW_some] <;> rfl) | (simp [*, errW_none, errW_some] <;> rfl), by repeat (first | (with_reducible first | exact HB.out | apply below_alloc | apply pw_below_drewN | apply below_drew1 | refine below_set ?_ GE412.out | refine below_set ?_ GE423.out | refine below_set ?_ GE445.out) | exact HB.out)⟩
                    · rw [if_neg c62] at H
                      have c62b0 : (t434 == t432) = false := beq_eq_false_iff_ne.mpr c62
                      have c62b1 : (t434 != t432) = true := bne_iff_ne.mpr c62
                      obtain rfl := Option.some.inj H
                      have hnb109 := NB423_412.out
                      have hnc109 := NB412_423.out
                      have hcz110_0 : wc.cell? ⟨gb423, 0, none⟩ = some (.slice Ao20 t416.length co20) := (blk_cell BK423.out 0).trans rfl
                      have hcz110_1 : wc.cell? ⟨gb423, 1, none⟩ = some (.int .i64 t419) := (blk_cell BK423.out 1).trans rfl
                      have hcz110_2 : wc.cell? ⟨gb423, 2, none⟩ = some (.int .i64 t420) := (blk_cell BK423.out 2).trans rfl
                      have hcz110_3 : wc.cell? ⟨gb423, 3, none⟩ = some (.bool t421) := (blk_cell BK423.out 3).trans rfl
                      have hfz110_0 := blk_frozen BK423.out 0
                      have hfz110_1 := blk_frozen BK423.out 1
                      have hfz110_2 := blk_frozen BK423.out 2
                      have hfz110_3 := blk_frozen BK423.out 3
                      go_wp2_with (first | ((with_reducible refine gate_callee (f := 36) rfl ?_); refine goesL_ (some 69) rfl rfl Try.func36 (by kernel_rfl) rfl #[.agg #[.slice Ao20 t416.length co20, .int .i64 t419, .int .i64 t420, .bool t421], .int .i64 1] rfl (by (try simp only [List.map_toArray, List.map_cons, List.map_nil]); first | done | rfl | (simp only [List.length_drop, List.length_take]; rfl)) ?_; (with_reducible refine (laws_markTalkRun.calls kj37 (fun k_ => some k_ = (.slice Ao20 t416.length co20 : Value).ownBlock) (.slice Ao20 t416.length co20) t416 t419 t420 t421 1 t432 t433 w _ ?side1 ?side2 A54.out).mono ?_); (case side1 => repeat (first | (with_reducible first | exact HB.out | apply below_alloc | apply pw_below_drewN | apply below_drew1 | refine below_set ?_ GE412.out | refine below_set ?_ GE423.out) | exact HB.out)); (case side2 => exact Kd.R_tight rfl HO_424000.out); rintro e w111 ⟨rfl, hy0, hb, hkp⟩; refine ⟨_, rfl, ?_⟩; have n0_ := Aside0.mk (Kd.R_mono (ok' := fun k_ => some k_ ≠ (.slice Ao20 t416.length co20 : Value).ownBlock) (Kd.R_keptB (HO_413000.out) hkp (fun k_ hk_ hs_ => (hk_) hs_)) (fun k_ hk_ => hk_.1)); have n1_ := Aside0.mk (Kd.R_reok rfl hy0 (fun k_ e_ => HO_424000.out.1 k_ e_)); have n2_ := Aside0.mk (blk_kept (by (with_reducible repeat (first | refine blk_drewN ?_ _ | refine blk_drew ?_ | refine blk_alloc ?_ _)); exact BK412.out) hkp (fun hs_ => (fun e_ => (Kd.R_ne HO_424000.out BK412.out (by decide)) e_) hs_)); have n3_ := Aside0.mk (blk_kept (by (with_reducible repeat (first | refine blk_drewN ?_ _ | refine blk_drew ?_ | refine blk_alloc ?_ _)); exact BK423.out) hkp (fun hs_ => (fun e_ => (Kd.R_ne HO_424000.out BK423.out (by decide)) e_) hs_)); have n4_ := Aside0.mk (hb); clear HO_413000; clear HO_424000; clear BK412; clear BK423; clear HB; have HO_413000 := n0_; have HO_424000 := n1_; have BK412 := n2_; have BK423 := n3_; have HB := n4_; clear n0_ n1_ n2_ n3_ n4_; (try clear hb); (try clear hkp); (try clear hy0); have hcz112_0 : w111.cell? ⟨gb423, 0, none⟩ = some (.slice Ao20 t416.length co20) := (blk_cell BK423.out 0).trans rfl; have hcz112_1 : w111.cell? ⟨gb423, 1, none⟩ = some (.int .i64 t419) := (blk_cell BK423.out 1).trans rfl; have hcz112_2 : w111.cell? ⟨gb423, 2, none⟩ = some (.int .i64 t420) := (blk_cell BK423.out 2).trans rfl; have hcz112_3 : w111.cell? ⟨gb423, 3, none⟩ = some (.bool t421) := (blk_cell BK423.out 3).trans rfl; have hfz112_0 := blk_frozen BK423.out 0; have hfz112_1 := blk_frozen BK423.out 1; have hfz112_2 := blk_frozen BK423.out 2; have hfz112_3 := blk_frozen BK423.out 3) | ((with_reducible refine gate_callee (f := 37) rfl ?_); refine goesL_ (some 72) rfl rfl Try.func37 (by kernel_rfl) rfl #[.agg #[.slice Ao20 t433.length co20, .int .i64 t419, .int .i64 t420, .bool t421], .int .i64 1] rfl (by (try simp only [List.map_toArray, List.map_cons, List.map_nil]); first | done | (rw [show t433.length = t416.length from (Kd.R_reads' HO_424000.out).1.symm] <;> rfl) | rfl | (simp only [List.length_drop, List.length_take]; rfl)) ?_; (with_reducible refine (laws_heldTalkRun.calls kj37 _ _ t433 t419 t420 t421 1 t434 _ ?side1 ?side2 A55.out).mono ?_); (case side1 => repeat (first | exact (Kd.R_reads' HO_424000.out).2.2 | (with_reducible refine Kd.C_alloc ?_ _) | (with_reducible refine Kd.C_drewN ?_ _) | (with_reducible refine Kd.C_drew ?_))); (case side2 => rw [show t433.length = t416.length from (Kd.R_reads' HO_424000.out).1.symm]; exact (Kd.R_reads' HO_424000.out).2.1); rintro e w113 ⟨rfl, hb⟩; refine ⟨_, rfl, ?_⟩; have n0_ := Aside0.mk (Kd.R_below (by (with_reducible repeat (first | apply Kd.R_alloc | apply Kd.R_drewN | apply Kd.R_drew)); exact HO_413000.out) hb); have n1_ := Aside0.mk (Kd.R_below (by (with_reducible repeat (first | apply Kd.R_alloc | apply Kd.R_drewN | apply Kd.R_drew)); exact HO_424000.out) hb); have n2_ := Aside0.mk (blk_below (g := gb412) (o := .cells #[.slice Ao14 t405.length co14, .int .i64 t408, .int .i64 t409, .bool t410] 38 (0, 0)) (by (with_reducible repeat (first | refine blk_drewN ?_ _ | refine blk_drew ?_ | refine blk_alloc ?_ _)); exact BK412.out) hb); have n3_ := Aside0.mk (blk_below (g := gb423) (o := .cells #[.slice Ao20 t416.length co20, .int .i64 t419, .int .i64 t420, .bool t421] 38 (0, 0)) (by (with_reducible repeat (first | refine blk_drewN ?_ _ | refine blk_drew ?_ | refine blk_alloc ?_ _)); exact BK423.out) hb); have n4_ := Aside0.mk (below_step (by repeat (first | (with_reducible first | exact HB.out | apply below_alloc | apply pw_below_drewN | apply below_drew1 | refine below_set ?_ GE412.out | refine below_set ?_ GE423.out) | exact HB.out)) hb); clear HO_413000; clear HO_424000; clear BK412; clear BK423; clear HB; have HO_413000 := n0_; have HO_424000 := n1_; have BK412 := n2_; have BK423 := n3_; have HB := n4_; clear n0_ n1_ n2_ n3_ n4_; (try clear hb); (try clear hb2); (try clear hk); (try clear hi)))
                      go_ret
                      exact ⟨by first | rfl | (simp [errW_none, errW_some] <;> rfl) | (simp [*, errW_none, errW_some] <;> rfl), by repeat (first | (with_reducible first | exact HB.out | apply below_alloc | apply pw_below_drewN | apply below_drew1 | refine below_set ?_ GE412.out | refine below_set ?_ GE423.out) | exact HB.out)⟩
          · replace c36 := Bool.eq_false_iff.mpr c36
            subst c36
            have H1 : (some false) = some r := by rw [if_neg (show ¬ (false = true) by decide)] at H; exact H
            clear H
            have H := H1
            clear H1
            obtain rfl := Option.some.inj H
            go_wp2_with (first | ((with_reducible refine gate_callee (f := 20) rfl ?_); refine goesL_ (some 48) rfl rfl Try.func20 (by kernel_rfl) rfl #[.slice A0 l0.length c0] rfl (by (try simp only [List.map_toArray, List.map_cons, List.map_nil]); first | done | rfl | (simp only [List.length_drop, List.length_take]; rfl)) ?_; (with_reducible refine (laws_toIntS.calls kj8 _ _ l0 t425 _ ?side1 ?side2 A34.out).mono ?_); (case side1 => repeat (first | exact (Kd.C_below HR0.out HB.out) | (with_reducible refine Kd.C_alloc ?_ _) | (with_reducible refine Kd.C_drewN ?_ _) | (with_reducible refine Kd.C_drew ?_))); (case side2 => exact HC0.out); rintro e w114 ⟨v426, rfl, ho0, hb⟩; refine ⟨_, rfl, ?_⟩; have n0_ := Aside0.mk (Kd.R_elder' (by (with_reducible repeat (first | apply Kd.R_alloc | apply Kd.R_drewN | apply Kd.R_drew)); exact HO_9.out) (Kd.R_base ho0) hb); have n1_ := Aside0.mk (Kd.R_elder' (by (with_reducible repeat (first | apply Kd.R_alloc | apply Kd.R_drewN | apply Kd.R_drew)); exact HO_413000.out) (Kd.R_base ho0) hb); have n2_ := Aside0.mk (Kd.R_elder' (by (with_reducible repeat (first | apply Kd.R_alloc | apply Kd.R_drewN | apply Kd.R_drew)); exact HO_424000.out) (Kd.R_base ho0) hb); have n3_ := Aside0.mk (Kd.R_lower (Kd.R_new' (Kd.R_new' (Kd.R_new' ho0 (Kd.R_lt (by (with_reducible repeat (first | apply Kd.R_alloc | apply Kd.R_drewN | apply Kd.R_drew)); exact HO_9.out))) (Kd.R_lt (by (with_reducible repeat (first | apply Kd.R_alloc | apply Kd.R_drewN | apply Kd.R_drew)); exact HO_413000.out))) (Kd.R_lt (by (with_reducible repeat (first | apply Kd.R_alloc | apply Kd.R_drewN | apply Kd.R_drew)); exact HO_424000.out))) (below_size (by repeat (first | (with_reducible first | exact HB.out | apply below_alloc | apply pw_below_drewN | apply below_drew1 | refine below_set ?_ GE412.out | refine below_set ?_ GE423.out) | exact HB.out)))); have n4_ := Aside0.mk (blk_below (g := gb412) (o := .cells #[.slice Ao14 t405.length co14, .int .i64 t408, .int .i64 t409, .bool t410] 38 (0, 0)) (by (with_reducible repeat (first | refine blk_drewN ?_ _ | refine blk_drew ?_ | refine blk_alloc ?_ _)); exact BK412.out) hb); have n5_ := Aside0.mk (blk_below (g := gb423) (o := .cells #[.slice Ao20 t416.length co20, .int .i64 t419, .int .i64 t420, .bool t421] 38 (0, 0)) (by (with_reducible repeat (first | refine blk_drewN ?_ _ | refine blk_drew ?_ | refine blk_alloc ?_ _)); exact BK423.out) hb); have n6_ := Aside0.mk (below_step (by repeat (first | (with_reducible first | exact HB.out | apply below_alloc | apply pw_below_drewN | apply below_drew1 | refine below_set ?_ GE412.out | refine below_set ?_ GE423.out) | exact HB.out)) hb); clear HO_9; clear HO_413000; clear HO_424000; clear BK412; clear BK423; clear HB; have HO_9 := n0_; have HO_413000 := n1_; have HO_424000 := n2_; have HO427 := n3_; have BK412 := n4_; have BK423 := n5_; have HB := n6_; clear n0_ n1_ n2_ n3_ n4_ n5_ n6_; (try clear hb); (try clear hb2); (try clear hk); (try clear hi); (try clear ho0); obtain ⟨Ao115, co115, eo115⟩ := Kd.R_slice HO427.out; subst eo115) | ((with_reducible refine gate_callee (f := 22) rfl ?_); refine goesL_ (some 49) rfl rfl Try.func22 (by kernel_rfl) rfl #[.slice Ao17 t413.length co17, .slice Ao115 t425.length co115] rfl (by (try simp only [List.map_toArray, List.map_cons, List.map_nil]); first | done | rfl | (simp only [List.length_drop, List.length_take]; rfl)) ?_; (with_reducible refine (laws_eqIntS.calls kj8 _ _ t413 _ _ t425 false _ ?side1 ?side2 ?side3 ?side4 A35.out).mono ?_); (case side1 => repeat (first | exact (Kd.R_reads' HO_9.out).2.2 | (with_reducible refine Kd.C_alloc ?_ _) | (with_reducible refine Kd.C_drewN ?_ _) | (with_reducible refine Kd.C_drew ?_))); (case side2 => exact (Kd.R_reads' HO_9.out).2.1); (case side3 => repeat (first | exact (Kd.R_reads' HO427.out).2.2 | (with_reducible refine Kd.C_alloc ?_ _) | (with_reducible refine Kd.C_drewN ?_ _) | (with_reducible refine Kd.C_drew ?_))); (case side4 => exact (Kd.R_reads' HO427.out).2.1); rintro e w' ⟨rfl, ⟨nd, rfl⟩⟩; refine ⟨_, rfl, ?_⟩))
            go_ret
            exact ⟨by first | rfl | (simp [errW_none, errW_some] <;> rfl) | (simp [*, errW_none, errW_some] <;> rfl), by repeat (first | (with_reducible first | exact HB.out | apply below_alloc | apply pw_below_drewN | apply below_drew1 | refine below_set ?_ GE412.out | refine below_set ?_ GE423.out) | exact HB.out)⟩

/-- THE ONE PURE STATEMENT of laws_FnExactRunToken: yours. -/
def laws_FnExactRunToken.Pure : Prop := ∀ (l0 : List Int) (a1 : Int) (a2 : Int), l0.length ≤ maxLen → l0.length * 8 ≤ 140737488351232 → (∀ x ∈ l0, (Lit.int .i64 x).wf = true) → (Lit.int .i64 a1).wf = true → (Lit.int .i64 a2).wf = true → ∃ k, laws_FnExactRunToken.f k l0 a1 a2 = some true
theorem laws_FnExactRunToken.walk (P : laws_FnExactRunToken.Pure) (a0 : Option Addr) (len0 cap0 : Nat) (z0 : List Int) (a1 : Int) (a2 : Int) (w : World) (w0 : (a0 = none ∧ len0 = 0 ∧ cap0 = 0 ∧ z0 = []) ∨ ∃ x, a0 = some x ∧ len0 ≤ cap0 ∧ cap0 ≤ maxLen ∧ z0.length = cap0 ∧ (∀ i, i < z0.length → w.cell? (x.add i) = some (.int .i64 (z0.getD i 0))) ∧ ∀ n ∈ z0, (Lit.int .i64 n).wf = true) (y0 : len0 * 8 ≤ 140737488351232) (w1 : (Lit.int .i64 a1).wf = true) (w2 : (Lit.int .i64 a2).wf = true) :
    Calls Try.prog 10 #[.slice a0 len0 cap0, .int .i64 a1, .int .i64 a2] w fun e w' => e = .returned (.bool true) ∧ Below w.heap.size w w' := by
  obtain ⟨l0, rfl, hr0, hm0, hw0, hc0⟩ := ReadsInt.ofRowC w0
  obtain ⟨k, h⟩ := P l0 a1 a2 hm0 y0 hw0 w1 w2
  refine (laws_FnExactRunToken.calls k _ _ l0 a1 a2 true w (Kd.C_of_reads (d := (0 : Int)) (h1 := fun _ => rfl) hr0) hc0 h).mono ?_
  rintro e w' ⟨rfl, hd⟩
  exact ⟨rfl, hd⟩

end Go.Proofs.Ytjnopjnickcloaa.PA
