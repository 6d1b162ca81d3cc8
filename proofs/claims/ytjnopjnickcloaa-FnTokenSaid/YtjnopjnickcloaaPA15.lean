-- Laid by this session's own program (pr.py) over the translation; Lean checks it.
import Derived.Test.YtjnopjnickcloaaPA0
import Derived.Test.YtjnopjnickcloaaPA9
import Derived.Test.YtjnopjnickcloaaPA11
import Derived.Test.YtjnopjnickcloaaPA13
import Derived.Test.YtjnopjnickcloaaPA14
namespace Go.Proofs.Ytjnopjnickcloaa.PA
open Go.RowKit Go.Proofs.YtjnopjnickcloaaW.PrintWords Go.Proofs.YtjnopjnickcloaaW.PrintLast Go.Proofs.YtjnopjnickcloaaW.PrintMore
attribute [local go_sem] max2_int min2_int max_two min_two max_three min_three max_four min_four   -- for this text's walks alone
set_option linter.unusedVariables false
set_option linter.unusedSimpArgs false

/-! ### laws_FnToken: function 8 -/
mutual
def laws_FnToken.j0 : Nat → List Int → Int → Bool → Bool → Bool → List Int → Int → Int → Bool → List Int → Int → Int → Bool → Option (Bool)
  | 0, _, _, _, _, _, _, _, _, _, _, _, _, _ => none
  | k + 1, x3, x5, x7, x9, x64, x334000, x334001, x334002, x334003, x342000, x342001, x342002, x342003 => if x64 = true then (if (x7 == x9) = true then ((laws_wnInts.f k x334000 x342000).bind fun t343 => (if t343 = true then (if x334002 = x342002 then (some (x334003 == x342003)) else (some false)) else (some false))) else (some false)) else (laws_FnToken.l0 k x5 0 x3 (x3.length : Int) 0 x334000 x334001 x334002 x334003)
def laws_FnToken.l0 : Nat → Int → Int → List Int → Int → Int → List Int → Int → Int → Bool → Option (Bool)
  | 0, _, _, _, _, _, _, _, _, _ => none
  | k + 1, x5, x10, x89, x90, x91, x334000, x334001, x334002, x334003 => if x91 < x90 then (if 0 ≤ x91 then (if x91 < (x89.length : Int) then (laws_FnToken.l0 k x5 (wrap64 (x10 + (rd x89 x91))) x89 x90 (wrap64 (x91 + 1)) x334000 x334001 x334002 x334003) else (none)) else (none)) else (if x334001 = 0 then (if (x334000.length : Int) = x334002 then (if x334002 = (mn x10 x5) then (some (x334003 == (decide (x5 ≥ x10)))) else (some false)) else (some false)) else (some false))
end
def laws_FnToken.f (k : Nat) (l0 : List Int) : Option (Bool) := if (l0.length : Int) > 1048576 then (some true) else ((spec_DrawRunToken.f k l0).bind fun bt321 => ((impl_RunToken.f k bt321.1 bt321.2.1 bt321.2.2).bind fun bt326 => ((spec_RunToken.f k bt321.1 bt321.2.1 bt321.2.2).bind fun bt334 => (if (bt326.2.2.2.2 != bt334.2.2.2.2) = true then (laws_FnToken.j0 k bt321.1 bt321.2.2 bt326.2.2.2.2 bt334.2.2.2.2 true bt326.1 bt326.2.1 bt326.2.2.1 bt326.2.2.2.1 bt334.1 bt334.2.1 bt334.2.2.1 bt334.2.2.2.1) else ((laws_wnInts.f k bt326.1 bt334.1).bind fun t342 => (if t342 = true then (if bt326.2.2.1 = bt334.2.2.1 then (if (bt326.2.2.2.1 != bt334.2.2.2.1) = true then (laws_FnToken.j0 k bt321.1 bt321.2.2 bt326.2.2.2.2 bt334.2.2.2.2 true bt326.1 bt326.2.1 bt326.2.2.1 bt326.2.2.2.1 bt334.1 bt334.2.1 bt334.2.2.1 bt334.2.2.2.1) else (laws_FnToken.j0 k bt321.1 bt321.2.2 bt326.2.2.2.2 bt334.2.2.2.2 (!bt326.2.2.2.2) bt326.1 bt326.2.1 bt326.2.2.1 bt326.2.2.2.1 bt334.1 bt334.2.1 bt334.2.2.1 bt334.2.2.2.1)) else (laws_FnToken.j0 k bt321.1 bt321.2.2 bt326.2.2.2.2 bt334.2.2.2.2 true bt326.1 bt326.2.1 bt326.2.2.1 bt326.2.2.2.1 bt334.1 bt334.2.1 bt334.2.2.1 bt334.2.2.2.1)) else (laws_FnToken.j0 k bt321.1 bt321.2.2 bt326.2.2.2.2 bt334.2.2.2.2 true bt326.1 bt326.2.1 bt326.2.2.1 bt326.2.2.2.1 bt334.1 bt334.2.1 bt334.2.2.1 bt334.2.2.2.1)))))))
theorem laws_FnToken.mono_l : ∀ k, (∀ y0 y1 y2 y3 y4 y5 y6 y7 y8 y9 y10 y11 y12, LeO (laws_FnToken.j0 k y0 y1 y2 y3 y4 y5 y6 y7 y8 y9 y10 y11 y12) (laws_FnToken.j0 (k + 1) y0 y1 y2 y3 y4 y5 y6 y7 y8 y9 y10 y11 y12)) ∧ (∀ y0 y1 y2 y3 y4 y5 y6 y7 y8, LeO (laws_FnToken.l0 k y0 y1 y2 y3 y4 y5 y6 y7 y8) (laws_FnToken.l0 (k + 1) y0 y1 y2 y3 y4 y5 y6 y7 y8))
  | 0 => ⟨fun _ _ _ _ _ _ _ _ _ _ _ _ _ r h => by simp [laws_FnToken.j0] at h, fun _ _ _ _ _ _ _ _ _ r h => by simp [laws_FnToken.l0] at h⟩
  | k + 1 => by
    obtain ⟨ih0, ih1⟩ := laws_FnToken.mono_l k
    refine ⟨?_, ?_⟩
    · intro y0 y1 y2 y3 y4 y5 y6 y7 y8 y9 y10 y11 y12
      unfold laws_FnToken.j0
      repeat' first
      | (with_reducible exact ih0 _ _ _ _ _ _ _ _ _ _ _ _ _)
      | (with_reducible exact ih1 _ _ _ _ _ _ _ _ _)
      | (with_reducible exact impl_RunToken.mono _ _ _ _)
      | (with_reducible exact laws_wnInts.mono _ _ _)
      | (with_reducible exact spec_DrawRunToken.mono _ _)
      | (with_reducible exact spec_RunToken.mono _ _ _ _)
      | (with_reducible exact LeO.refl _)
      | (with_reducible exact LeO.none _)
      | (with_reducible refine LeO.ite ?_ ?_)
      | (with_reducible refine LeO.bind ?_ (fun _ => ?_))
      | exact ih0 _ _ _ _ _ _ _ _ _ _ _ _ _
      | exact ih1 _ _ _ _ _ _ _ _ _
      | exact impl_RunToken.mono _ _ _ _
      | exact laws_wnInts.mono _ _ _
      | exact spec_DrawRunToken.mono _ _
      | exact spec_RunToken.mono _ _ _ _
      | exact LeO.none _
      | refine LeO.ite ?_ ?_
      | refine LeO.bind ?_ (fun _ => ?_)
    · intro y0 y1 y2 y3 y4 y5 y6 y7 y8
      unfold laws_FnToken.l0
      repeat' first
      | (with_reducible exact ih0 _ _ _ _ _ _ _ _ _ _ _ _ _)
      | (with_reducible exact ih1 _ _ _ _ _ _ _ _ _)
      | (with_reducible exact impl_RunToken.mono _ _ _ _)
      | (with_reducible exact laws_wnInts.mono _ _ _)
      | (with_reducible exact spec_DrawRunToken.mono _ _)
      | (with_reducible exact spec_RunToken.mono _ _ _ _)
      | (with_reducible exact LeO.refl _)
      | (with_reducible exact LeO.none _)
      | (with_reducible refine LeO.ite ?_ ?_)
      | (with_reducible refine LeO.bind ?_ (fun _ => ?_))
      | exact ih0 _ _ _ _ _ _ _ _ _ _ _ _ _
      | exact ih1 _ _ _ _ _ _ _ _ _
      | exact impl_RunToken.mono _ _ _ _
      | exact laws_wnInts.mono _ _ _
      | exact spec_DrawRunToken.mono _ _
      | exact spec_RunToken.mono _ _ _ _
      | exact LeO.none _
      | refine LeO.ite ?_ ?_
      | refine LeO.bind ?_ (fun _ => ?_)
theorem laws_FnToken.mono : ∀ a0 k, LeO (laws_FnToken.f k a0) (laws_FnToken.f (k + 1) a0) := by
  intro a0 k
  obtain ⟨ih0, ih1⟩ := laws_FnToken.mono_l k
  unfold laws_FnToken.f
  repeat' first
      | (with_reducible exact ih0 _ _ _ _ _ _ _ _ _ _ _ _ _)
      | (with_reducible exact ih1 _ _ _ _ _ _ _ _ _)
      | (with_reducible exact impl_RunToken.mono _ _ _ _)
      | (with_reducible exact laws_wnInts.mono _ _ _)
      | (with_reducible exact spec_DrawRunToken.mono _ _)
      | (with_reducible exact spec_RunToken.mono _ _ _ _)
      | (with_reducible exact LeO.refl _)
      | (with_reducible exact LeO.none _)
      | (with_reducible refine LeO.ite ?_ ?_)
      | (with_reducible refine LeO.bind ?_ (fun _ => ?_))
      | exact ih0 _ _ _ _ _ _ _ _ _ _ _ _ _
      | exact ih1 _ _ _ _ _ _ _ _ _
      | exact impl_RunToken.mono _ _ _ _
      | exact laws_wnInts.mono _ _ _
      | exact spec_DrawRunToken.mono _ _
      | exact spec_RunToken.mono _ _ _ _
      | exact LeO.none _
      | refine LeO.ite ?_ ?_
      | refine LeO.bind ?_ (fun _ => ?_)
set_option maxHeartbeats 8000000 in
set_option maxRecDepth 100000 in
theorem laws_FnToken.calls (k : Nat) (A0 : Option Addr) (c0 : Nat) (l0 : List Int) (r : Bool) (w : World) (hr0 : Kd.C (Kd.int .u8) w A0 l0.length l0) (hc0 : l0.length ≤ c0) (h : laws_FnToken.f k l0 = some r) :
    Calls Try.prog 8 #[.slice A0 l0.length c0] w fun e w' => e = .returned (.bool r) ∧ Below w.heap.size w w' := by
  have hu38 := Try.underlying38
  have HR0 := Aside0.mk hr0
  have HC0 := Aside0.mk hc0
  clear hr0 hc0
  have HB := Aside0.mk (Below.refl w.heap.size w)
  have H : (if (l0.length : Int) > 1048576 then (some true) else ((spec_DrawRunToken.f k l0).bind fun bt321 => ((impl_RunToken.f k bt321.1 bt321.2.1 bt321.2.2).bind fun bt326 => ((spec_RunToken.f k bt321.1 bt321.2.1 bt321.2.2).bind fun bt334 => (if (bt326.2.2.2.2 != bt334.2.2.2.2) = true then (laws_FnToken.j0 k bt321.1 bt321.2.2 bt326.2.2.2.2 bt334.2.2.2.2 true bt326.1 bt326.2.1 bt326.2.2.1 bt326.2.2.2.1 bt334.1 bt334.2.1 bt334.2.2.1 bt334.2.2.2.1) else ((laws_wnInts.f k bt326.1 bt334.1).bind fun t342 => (if t342 = true then (if bt326.2.2.1 = bt334.2.2.1 then (if (bt326.2.2.2.1 != bt334.2.2.2.1) = true then (laws_FnToken.j0 k bt321.1 bt321.2.2 bt326.2.2.2.2 bt334.2.2.2.2 true bt326.1 bt326.2.1 bt326.2.2.1 bt326.2.2.2.1 bt334.1 bt334.2.1 bt334.2.2.1 bt334.2.2.2.1) else (laws_FnToken.j0 k bt321.1 bt321.2.2 bt326.2.2.2.2 bt334.2.2.2.2 (!bt326.2.2.2.2) bt326.1 bt326.2.1 bt326.2.2.1 bt326.2.2.2.1 bt334.1 bt334.2.1 bt334.2.2.1 bt334.2.2.2.1)) else (laws_FnToken.j0 k bt321.1 bt321.2.2 bt326.2.2.2.2 bt334.2.2.2.2 true bt326.1 bt326.2.1 bt326.2.2.1 bt326.2.2.2.1 bt334.1 bt334.2.1 bt334.2.2.1 bt334.2.2.2.1)) else (laws_FnToken.j0 k bt321.1 bt321.2.2 bt326.2.2.2.2 bt334.2.2.2.2 true bt326.1 bt326.2.1 bt326.2.2.1 bt326.2.2.2.1 bt334.1 bt334.2.1 bt334.2.2.1 bt334.2.2.2.1)))))))) = some r := h
  clear h
  by_cases c2 : (l0.length : Int) > 1048576
  · rw [if_pos c2] at H
    have c2b0 : decide (1048576 < (l0.length : Int)) = true := decide_eq_true c2
    have c2b1 : decide (1048576 < l0.length) = true := decide_eq_true (by omega)
    clear c2
    obtain rfl := Option.some.inj H
    go_enter Try.func8, Try.ntmps8
    go_wp2
    go_ret
    exact ⟨by first | rfl | (simp [errW_none, errW_some] <;> rfl) | (simp [*, errW_none, errW_some] <;> rfl), by repeat (first | (with_reducible first | exact HB.out | apply below_alloc | apply pw_below_drewN | apply below_drew1) | exact HB.out)⟩
  · rw [if_neg c2] at H
    have c2b0 : decide (1048576 < (l0.length : Int)) = false := decide_eq_false c2
    have c2b1 : decide (1048576 < l0.length) = false := decide_eq_false (by omega)
    clear c2
    replace H := Option.bind_eq_some_iff.mp H
    obtain ⟨⟨t321, t322, t323⟩, A30, H⟩ := H
    replace H : ((impl_RunToken.f k t321 t322 t323).bind fun bt326 => ((spec_RunToken.f k t321 t322 t323).bind fun bt334 => (if (bt326.2.2.2.2 != bt334.2.2.2.2) = true then (laws_FnToken.j0 k t321 t323 bt326.2.2.2.2 bt334.2.2.2.2 true bt326.1 bt326.2.1 bt326.2.2.1 bt326.2.2.2.1 bt334.1 bt334.2.1 bt334.2.2.1 bt334.2.2.2.1) else ((laws_wnInts.f k bt326.1 bt334.1).bind fun t342 => (if t342 = true then (if bt326.2.2.1 = bt334.2.2.1 then (if (bt326.2.2.2.1 != bt334.2.2.2.1) = true then (laws_FnToken.j0 k t321 t323 bt326.2.2.2.2 bt334.2.2.2.2 true bt326.1 bt326.2.1 bt326.2.2.1 bt326.2.2.2.1 bt334.1 bt334.2.1 bt334.2.2.1 bt334.2.2.2.1) else (laws_FnToken.j0 k t321 t323 bt326.2.2.2.2 bt334.2.2.2.2 (!bt326.2.2.2.2) bt326.1 bt326.2.1 bt326.2.2.1 bt326.2.2.2.1 bt334.1 bt334.2.1 bt334.2.2.1 bt334.2.2.2.1)) else (laws_FnToken.j0 k t321 t323 bt326.2.2.2.2 bt334.2.2.2.2 true bt326.1 bt326.2.1 bt326.2.2.1 bt326.2.2.2.1 bt334.1 bt334.2.1 bt334.2.2.1 bt334.2.2.2.1)) else (laws_FnToken.j0 k t321 t323 bt326.2.2.2.2 bt334.2.2.2.2 true bt326.1 bt326.2.1 bt326.2.2.1 bt326.2.2.2.1 bt334.1 bt334.2.1 bt334.2.2.1 bt334.2.2.2.1)))))) = some r := H
    have A3 := Aside0.mk A30
    clear A30
    replace H := Option.bind_eq_some_iff.mp H
    obtain ⟨⟨t326, t329, t330, t331, t332⟩, A40, H⟩ := H
    replace H : ((spec_RunToken.f k t321 t322 t323).bind fun bt334 => (if (t332 != bt334.2.2.2.2) = true then (laws_FnToken.j0 k t321 t323 t332 bt334.2.2.2.2 true t326 t329 t330 t331 bt334.1 bt334.2.1 bt334.2.2.1 bt334.2.2.2.1) else ((laws_wnInts.f k t326 bt334.1).bind fun t342 => (if t342 = true then (if t330 = bt334.2.2.1 then (if (t331 != bt334.2.2.2.1) = true then (laws_FnToken.j0 k t321 t323 t332 bt334.2.2.2.2 true t326 t329 t330 t331 bt334.1 bt334.2.1 bt334.2.2.1 bt334.2.2.2.1) else (laws_FnToken.j0 k t321 t323 t332 bt334.2.2.2.2 (!t332) t326 t329 t330 t331 bt334.1 bt334.2.1 bt334.2.2.1 bt334.2.2.2.1)) else (laws_FnToken.j0 k t321 t323 t332 bt334.2.2.2.2 true t326 t329 t330 t331 bt334.1 bt334.2.1 bt334.2.2.1 bt334.2.2.2.1)) else (laws_FnToken.j0 k t321 t323 t332 bt334.2.2.2.2 true t326 t329 t330 t331 bt334.1 bt334.2.1 bt334.2.2.1 bt334.2.2.2.1))))) = some r := H
    have A4 := Aside0.mk A40
    clear A40
    replace H := Option.bind_eq_some_iff.mp H
    obtain ⟨⟨t334, t337, t338, t339, t340⟩, A50, H⟩ := H
    replace H : (if (t332 != t340) = true then (laws_FnToken.j0 k t321 t323 t332 t340 true t326 t329 t330 t331 t334 t337 t338 t339) else ((laws_wnInts.f k t326 t334).bind fun t342 => (if t342 = true then (if t330 = t338 then (if (t331 != t339) = true then (laws_FnToken.j0 k t321 t323 t332 t340 true t326 t329 t330 t331 t334 t337 t338 t339) else (laws_FnToken.j0 k t321 t323 t332 t340 (!t332) t326 t329 t330 t331 t334 t337 t338 t339)) else (laws_FnToken.j0 k t321 t323 t332 t340 true t326 t329 t330 t331 t334 t337 t338 t339)) else (laws_FnToken.j0 k t321 t323 t332 t340 true t326 t329 t330 t331 t334 t337 t338 t339)))) = some r := H
    have A5 := Aside0.mk A50
    clear A50
    have HC6 := Aside0.mk H
    clear H
    go_enter Try.func8, Try.ntmps8
    go_upto_region 6 with (first | ((with_reducible refine gate_callee (f := 29) rfl ?_); refine goesL_ (some 18) rfl rfl Try.func29 (by kernel_rfl) rfl #[.slice A0 l0.length c0] rfl (by (try simp only [List.map_toArray, List.map_cons, List.map_nil]); first | done | rfl | (simp only [List.length_drop, List.length_take]; rfl)) ?_; (with_reducible refine (spec_DrawRunToken.calls k _ _ l0 t321 t322 t323 _ ?side1 ?side2 A3.out).mono ?_); (case side1 => repeat (first | exact HR0.out | (with_reducible refine Kd.C_alloc ?_ _) | (with_reducible refine Kd.C_drewN ?_ _) | (with_reducible refine Kd.C_drew ?_))); (case side2 => exact HC0.out); rintro e w7 ⟨v324, rfl, ho0, hb⟩; refine ⟨_, rfl, ?_⟩; have n0_ := Aside0.mk (Kd.R_lower ho0 (below_size (by repeat (first | (with_reducible first | exact HB.out | apply below_alloc | apply pw_below_drewN | apply below_drew1) | exact HB.out)))); have n1_ := Aside0.mk (below_step (by repeat (first | (with_reducible first | exact HB.out | apply below_alloc | apply pw_below_drewN | apply below_drew1) | exact HB.out)) hb); clear HB; have HO325 := n0_; have HB := n1_; clear n0_ n1_; (try clear hb); (try clear hb2); (try clear hk); (try clear hi); (try clear ho0); obtain ⟨Ao8, co8, eo8⟩ := Kd.R_slice HO325.out; subst eo8) | ((with_reducible refine gate_callee (f := 30) rfl ?_); refine goesL_ (some 26) rfl rfl Try.func30 (by kernel_rfl) rfl #[.slice Ao8 t321.length co8, .int .i64 t322, .int .i64 t323] rfl (by (try simp only [List.map_toArray, List.map_cons, List.map_nil]); first | done | rfl | (simp only [List.length_drop, List.length_take]; rfl)) ?_; (with_reducible refine (impl_RunToken.calls k _ _ t321 t322 t323 t326 t329 t330 t331 t332 _ ?side1 ?side2 A4.out).mono ?_); (case side1 => repeat (first | exact (Kd.R_reads' HO325.out).2.2 | (with_reducible refine Kd.C_alloc ?_ _) | (with_reducible refine Kd.C_drewN ?_ _) | (with_reducible refine Kd.C_drew ?_))); (case side2 => exact (Kd.R_reads' HO325.out).2.1); rintro e w9 ⟨v327, rfl, ho0, hb⟩; refine ⟨_, rfl, ?_⟩; have n0_ := Aside0.mk (Kd.R_elder' (by (with_reducible repeat (first | apply Kd.R_alloc | apply Kd.R_drewN | apply Kd.R_drew)); exact HO325.out) (Kd.R_base ho0) hb); have n1_ := Aside0.mk (Kd.R_lower (Kd.R_new' ho0 (Kd.R_lt (by (with_reducible repeat (first | apply Kd.R_alloc | apply Kd.R_drewN | apply Kd.R_drew)); exact HO325.out))) (below_size (by repeat (first | (with_reducible first | exact HB.out | apply below_alloc | apply pw_below_drewN | apply below_drew1) | exact HB.out)))); have n2_ := Aside0.mk (below_step (by repeat (first | (with_reducible first | exact HB.out | apply below_alloc | apply pw_below_drewN | apply below_drew1) | exact HB.out)) hb); clear HO325; clear HB; have HO325 := n0_; have HO328 := n1_; have HB := n2_; clear n0_ n1_ n2_; (try clear hb); (try clear hb2); (try clear hk); (try clear hi); (try clear ho0)) | ((with_reducible refine gate_dst (N := 6) rfl ?_); (try (refine gate_guard (by rfl) ?_; dsimp only)); refine box_event ?hg (N := 6) ?hd (cs := #[.slice none 0 0, .int .i64 0, .int .i64 0, .bool false]) (t := 38) ?hr ?_; (case hd => rfl); (case hg => rfl); (case hr => first | (go_simp; done) | (go_simp; rfl)); intro gb333 hg w10 hbox hb; have n0_ := Aside0.mk (Kd.R_below (by (with_reducible repeat (first | apply Kd.R_alloc | apply Kd.R_drewN | apply Kd.R_drew)); exact HO325.out) hb); have n1_ := Aside0.mk (Kd.R_below (by (with_reducible repeat (first | apply Kd.R_alloc | apply Kd.R_drewN | apply Kd.R_drew)); exact HO328.out) hb); have n2_ := Aside0.mk (below_step (by repeat (first | (with_reducible first | exact HB.out | apply below_alloc | apply pw_below_drewN | apply below_drew1) | exact HB.out)) hb); have n3_ := Aside0.mk (hbox); have n4_ := Aside0.mk ((by rw [hg]; exact (below_size (by repeat (first | (with_reducible first | exact HB.out | apply below_alloc | apply pw_below_drewN | apply below_drew1) | exact HB.out))) : w.heap.size ≤ gb333)); have n5_ := Aside0.mk ((by rw [hg]; exact (below_size (by repeat (first | (with_reducible first | exact HB.out | apply below_alloc | apply pw_below_drewN | apply below_drew1) | exact HB.out))) : w.heap.size ≤ gb333)); clear HO325; clear HO328; clear HB; have HO325 := n0_; have HO328 := n1_; have HB := n2_; have BK333 := n3_; have GW333 := n4_; have GE333 := n5_; clear n0_ n1_ n2_ n3_ n4_ n5_; clear hb hbox hg; obtain ⟨Ao11, co11, eo11⟩ := Kd.R_slice HO328.out; subst eo11; have hcz12_0 : w10.cell? ⟨gb333, 0, none⟩ = some (.slice none 0 0) := (blk_cell BK333.out 0).trans rfl; have hcz12_1 : w10.cell? ⟨gb333, 1, none⟩ = some (.int .i64 0) := (blk_cell BK333.out 1).trans rfl; have hcz12_2 : w10.cell? ⟨gb333, 2, none⟩ = some (.int .i64 0) := (blk_cell BK333.out 2).trans rfl; have hcz12_3 : w10.cell? ⟨gb333, 3, none⟩ = some (.bool false) := (blk_cell BK333.out 3).trans rfl; have hfz12_0 := blk_frozen BK333.out 0; have hfz12_1 := blk_frozen BK333.out 1; have hfz12_2 := blk_frozen BK333.out 2; have hfz12_3 := blk_frozen BK333.out 3) | ((with_reducible refine gate_callee (f := 31) rfl ?_); refine goesL_ (some 33) rfl rfl Try.func31 (by kernel_rfl) rfl #[.slice Ao8 t321.length co8, .int .i64 t322, .int .i64 t323] rfl (by (try simp only [List.map_toArray, List.map_cons, List.map_nil]); first | done | rfl | (simp only [List.length_drop, List.length_take]; rfl)) ?_; (with_reducible refine (spec_RunToken.calls k _ _ t321 t322 t323 t334 t337 t338 t339 t340 _ ?side1 ?side2 A5.out).mono ?_); (case side1 => refine (Kd.R_reads' (e := 3) (base := w.heap.size) (ok := fun k_ => (True ∧ some k_ ≠ (.slice Ao11 t326.length co11 : Value).ownBlock)) (n := t321.length) (c := co8) ?_).2.2; exact (by (with_reducible repeat (first | apply Kd.R_alloc | apply Kd.R_drewN | apply Kd.R_drew)); exact (Kd.R_mono (Kd.R_far (p := ⟨gb333, 3, none⟩) (Kd.R_far (p := ⟨gb333, 2, none⟩) (Kd.R_far (p := ⟨gb333, 1, none⟩) (Kd.R_far (p := ⟨gb333, 0, none⟩) (Kd.R_types HO325.out BK333.out (by decide)) (fun _ hk => hk.2) (.slice Ao11 t326.length co11)) (fun _ hk => hk.2) (.int .i64 t329)) (fun _ hk => hk.2) (.int .i64 t330)) (fun _ hk => hk.2) (.bool t331)) (fun _ h_ => h_.1)))); (case side2 => exact (Kd.R_reads' HO325.out).2.1); rintro e w13 ⟨v335, rfl, ho0, hb⟩; refine ⟨_, rfl, ?_⟩; have n0_ := Aside0.mk (Kd.R_elder' (by (with_reducible repeat (first | apply Kd.R_alloc | apply Kd.R_drewN | apply Kd.R_drew)); exact (Kd.R_mono (Kd.R_far (p := ⟨gb333, 3, none⟩) (Kd.R_far (p := ⟨gb333, 2, none⟩) (Kd.R_far (p := ⟨gb333, 1, none⟩) (Kd.R_far (p := ⟨gb333, 0, none⟩) (Kd.R_types HO325.out BK333.out (by decide)) (fun _ hk => hk.2) (.slice Ao11 t326.length co11)) (fun _ hk => hk.2) (.int .i64 t329)) (fun _ hk => hk.2) (.int .i64 t330)) (fun _ hk => hk.2) (.bool t331)) (fun _ h_ => h_.1))) (Kd.R_base ho0) hb); have n1_ := Aside0.mk (Kd.R_elder' (by (with_reducible repeat (first | apply Kd.R_alloc | apply Kd.R_drewN | apply Kd.R_drew)); exact (Kd.R_mono (Kd.R_far (p := ⟨gb333, 3, none⟩) (Kd.R_far (p := ⟨gb333, 2, none⟩) (Kd.R_far (p := ⟨gb333, 1, none⟩) (Kd.R_far (p := ⟨gb333, 0, none⟩) (Kd.R_types HO328.out BK333.out (by decide)) (fun _ hk => hk.2) (.slice Ao11 t326.length co11)) (fun _ hk => hk.2) (.int .i64 t329)) (fun _ hk => hk.2) (.int .i64 t330)) (fun _ hk => hk.2) (.bool t331)) (fun _ h_ => h_.1))) (Kd.R_base ho0) hb); have n2_ := Aside0.mk (Kd.R_lower (Kd.R_new' (Kd.R_new' ho0 (Kd.R_lt (by (with_reducible repeat (first | apply Kd.R_alloc | apply Kd.R_drewN | apply Kd.R_drew)); exact (Kd.R_mono (Kd.R_far (p := ⟨gb333, 3, none⟩) (Kd.R_far (p := ⟨gb333, 2, none⟩) (Kd.R_far (p := ⟨gb333, 1, none⟩) (Kd.R_far (p := ⟨gb333, 0, none⟩) (Kd.R_types HO325.out BK333.out (by decide)) (fun _ hk => hk.2) (.slice Ao11 t326.length co11)) (fun _ hk => hk.2) (.int .i64 t329)) (fun _ hk => hk.2) (.int .i64 t330)) (fun _ hk => hk.2) (.bool t331)) (fun _ h_ => h_.1))))) (Kd.R_lt (by (with_reducible repeat (first | apply Kd.R_alloc | apply Kd.R_drewN | apply Kd.R_drew)); exact (Kd.R_mono (Kd.R_far (p := ⟨gb333, 3, none⟩) (Kd.R_far (p := ⟨gb333, 2, none⟩) (Kd.R_far (p := ⟨gb333, 1, none⟩) (Kd.R_far (p := ⟨gb333, 0, none⟩) (Kd.R_types HO328.out BK333.out (by decide)) (fun _ hk => hk.2) (.slice Ao11 t326.length co11)) (fun _ hk => hk.2) (.int .i64 t329)) (fun _ hk => hk.2) (.int .i64 t330)) (fun _ hk => hk.2) (.bool t331)) (fun _ h_ => h_.1))))) (below_size (by repeat (first | (with_reducible first | exact HB.out | apply below_alloc | apply pw_below_drewN | apply below_drew1 | refine below_set ?_ GE333.out) | exact HB.out)))); have n3_ := Aside0.mk (blk_below (g := gb333) (o := .cells #[.slice Ao11 t326.length co11, .int .i64 t329, .int .i64 t330, .bool t331] 38 (0, 0)) (by (with_reducible repeat (first | refine blk_drewN ?_ _ | refine blk_drew ?_ | refine blk_alloc ?_ _)); refine blk_put (cs := #[.slice Ao11 t326.length co11, .int .i64 t329, .int .i64 t330, .bool false]) ?_ 3 _ rfl; (with_reducible repeat (first | refine blk_drewN ?_ _ | refine blk_drew ?_ | refine blk_alloc ?_ _)); refine blk_put (cs := #[.slice Ao11 t326.length co11, .int .i64 t329, .int .i64 0, .bool false]) ?_ 2 _ rfl; (with_reducible repeat (first | refine blk_drewN ?_ _ | refine blk_drew ?_ | refine blk_alloc ?_ _)); refine blk_put (cs := #[.slice Ao11 t326.length co11, .int .i64 0, .int .i64 0, .bool false]) ?_ 1 _ rfl; (with_reducible repeat (first | refine blk_drewN ?_ _ | refine blk_drew ?_ | refine blk_alloc ?_ _)); refine blk_put (cs := #[.slice none 0 0, .int .i64 0, .int .i64 0, .bool false]) ?_ 0 _ rfl; (with_reducible repeat (first | refine blk_drewN ?_ _ | refine blk_drew ?_ | refine blk_alloc ?_ _)); exact BK333.out) hb); have n4_ := Aside0.mk (below_step (by repeat (first | (with_reducible first | exact HB.out | apply below_alloc | apply pw_below_drewN | apply below_drew1 | refine below_set ?_ GE333.out) | exact HB.out)) hb); clear HO325; clear HO328; clear BK333; clear HB; have HO325 := n0_; have HO328 := n1_; have HO336 := n2_; have BK333 := n3_; have HB := n4_; clear n0_ n1_ n2_ n3_ n4_; (try clear hb); (try clear hb2); (try clear hk); (try clear hi); (try clear ho0)) | ((with_reducible refine gate_dst (N := 8) rfl ?_); (try (refine gate_guard (by rfl) ?_; dsimp only)); refine box_event ?hg (N := 8) ?hd (cs := #[.slice none 0 0, .int .i64 0, .int .i64 0, .bool false]) (t := 38) ?hr ?_; (case hd => rfl); (case hg => rfl); (case hr => first | (go_simp; done) | (go_simp; rfl)); intro gb341 hg w14 hbox hb; have n0_ := Aside0.mk (Kd.R_below (by (with_reducible repeat (first | apply Kd.R_alloc | apply Kd.R_drewN | apply Kd.R_drew)); exact HO325.out) hb); have n1_ := Aside0.mk (Kd.R_below (by (with_reducible repeat (first | apply Kd.R_alloc | apply Kd.R_drewN | apply Kd.R_drew)); exact HO328.out) hb); have n2_ := Aside0.mk (Kd.R_below (by (with_reducible repeat (first | apply Kd.R_alloc | apply Kd.R_drewN | apply Kd.R_drew)); exact HO336.out) hb); have n3_ := Aside0.mk (blk_below (g := gb333) (o := .cells #[.slice Ao11 t326.length co11, .int .i64 t329, .int .i64 t330, .bool t331] 38 (0, 0)) (by (with_reducible repeat (first | refine blk_drewN ?_ _ | refine blk_drew ?_ | refine blk_alloc ?_ _)); exact BK333.out) hb); have n4_ := Aside0.mk (below_step (by repeat (first | (with_reducible first | exact HB.out | apply below_alloc | apply pw_below_drewN | apply below_drew1 | refine below_set ?_ GE333.out) | exact HB.out)) hb); have n5_ := Aside0.mk (hbox); have n6_ := Aside0.mk ((by rw [hg]; exact (below_size (by repeat (first | (with_reducible first | exact HB.out | apply below_alloc | apply pw_below_drewN | apply below_drew1 | refine below_set ?_ GE333.out) | exact HB.out))) : w.heap.size ≤ gb341)); have n7_ := Aside0.mk ((by rw [hg]; exact (below_size (by repeat (first | (with_reducible first | exact HB.out | apply below_alloc | apply pw_below_drewN | apply below_drew1 | refine below_set ?_ GE333.out) | exact HB.out))) : w.heap.size ≤ gb341)); have n8_ := Aside0.mk ((by rw [hg]; exact Nat.ne_of_lt (blk_lt (g := gb333) (o := .cells #[.slice Ao11 t326.length co11, .int .i64 t329, .int .i64 t330, .bool t331] 38 (0, 0)) (by (with_reducible repeat (first | refine blk_drewN ?_ _ | refine blk_drew ?_ | refine blk_alloc ?_ _)); exact BK333.out)) : gb333 ≠ gb341)); have n9_ := Aside0.mk ((by rw [hg]; exact Nat.ne_of_gt (blk_lt (g := gb333) (o := .cells #[.slice Ao11 t326.length co11, .int .i64 t329, .int .i64 t330, .bool t331] 38 (0, 0)) (by (with_reducible repeat (first | refine blk_drewN ?_ _ | refine blk_drew ?_ | refine blk_alloc ?_ _)); exact BK333.out)) : gb341 ≠ gb333)); clear HO325; clear HO328; clear HO336; clear BK333; clear HB; have HO325 := n0_; have HO328 := n1_; have HO336 := n2_; have BK333 := n3_; have HB := n4_; have BK341 := n5_; have GW341 := n6_; have GE341 := n7_; have NB333_341 := n8_; have NB341_333 := n9_; clear n0_ n1_ n2_ n3_ n4_ n5_ n6_ n7_ n8_ n9_; clear hb hbox hg; obtain ⟨Ao15, co15, eo15⟩ := Kd.R_slice HO336.out; subst eo15; have hnb16 := NB341_333.out; have hnc16 := NB333_341.out; have hcz17_0 : w14.cell? ⟨gb341, 0, none⟩ = some (.slice none 0 0) := (blk_cell BK341.out 0).trans rfl; have hcz17_1 : w14.cell? ⟨gb341, 1, none⟩ = some (.int .i64 0) := (blk_cell BK341.out 1).trans rfl; have hcz17_2 : w14.cell? ⟨gb341, 2, none⟩ = some (.int .i64 0) := (blk_cell BK341.out 2).trans rfl; have hcz17_3 : w14.cell? ⟨gb341, 3, none⟩ = some (.bool false) := (blk_cell BK341.out 3).trans rfl; have hfz17_0 := blk_frozen BK341.out 0; have hfz17_1 := blk_frozen BK341.out 1; have hfz17_2 := blk_frozen BK341.out 2; have hfz17_3 := blk_frozen BK341.out 3))
    (try simp only [Act.put, List.setIfInBounds_toArray, List.set_cons_zero, List.set_cons_succ])
    go_cut [64] (fun v64 wc => ∃ (kq : Nat) (x64_5 : Bool), v64 = .bool x64_5 ∧ Aside0 (laws_FnToken.j0 kq t321 t323 t332 t340 x64_5 t326 t329 t330 t331 t334 t337 t338 t339 = some r) ∧ Aside0 (kq ≤ k) ∧ Aside0 (Kd.R (Kd.int .i64) 3 wc w.heap.size (fun k_ => some k_ ≠ ((.slice Ao11 t326.length co11) : Value).ownBlock ∧ some k_ ≠ ((.slice Ao15 t334.length co15) : Value).ownBlock) (.slice Ao8 t321.length co8) t321) ∧ Aside0 (Kd.R (Kd.int .i64) 3 wc w.heap.size (fun k_ => some k_ ≠ ((.slice Ao8 t321.length co8) : Value).ownBlock ∧ some k_ ≠ ((.slice Ao15 t334.length co15) : Value).ownBlock) (.slice Ao11 t326.length co11) t326) ∧ Aside0 (Kd.R (Kd.int .i64) 3 wc w.heap.size (fun k_ => some k_ ≠ ((.slice Ao8 t321.length co8) : Value).ownBlock ∧ some k_ ≠ ((.slice Ao11 t326.length co11) : Value).ownBlock) (.slice Ao15 t334.length co15) t334) ∧ Aside0 (wc.heap[gb333]? = some (.cells #[(.slice Ao11 t326.length co11), .int .i64 t329, .int .i64 t330, .bool t331] 38 (0, 0))) ∧ Aside0 (wc.heap[gb341]? = some (.cells #[(.slice Ao15 t334.length co15), .int .i64 t337, .int .i64 t338, .bool t339] 38 (0, 0))) ∧ Aside0 (Below w.heap.size w wc))
    case first =>
      have H := HC6.out
      clear HC6
      by_cases c18 : (t332 != t340) = true
      · rw [if_pos c18] at H
        have c18b0 : (t332 != t340) = true := c18
        (try (have c18b1 : decide (t332 = t340) = false := by simpa using c18))
        (try (have c18b2 : (t332 == t340) = false := by simpa using c18))
        (try (have c18b3 : ¬ (t332 = t340) := by simpa using c18))
        clear c18
        (first | rw [c18b0] | (simp only [i64_w, i32_w]; rw [c18b0]) | skip)
        have H' := Aside0.mk H
        clear H
        go_wp2
        go_meet
        case rel => exact ⟨_, (true), (by first | rfl | (simp; done) | (simp [*]; done)), H', ⟨by first | omega | exact Nat.le_refl _⟩, ⟨by (with_reducible repeat (first | apply Kd.R_alloc | apply Kd.R_drewN | apply Kd.R_drew)); exact Kd.R_mono (Kd.R_far (p := ⟨gb341, 3, none⟩) (Kd.R_far (p := ⟨gb341, 2, none⟩) (Kd.R_far (p := ⟨gb341, 1, none⟩) (Kd.R_far (p := ⟨gb341, 0, none⟩) (Kd.R_types HO325.out BK341.out (by decide)) (fun _ hk => hk.2) (.slice Ao15 t334.length co15)) (fun _ hk => hk.2) (.int .i64 t337)) (fun _ hk => hk.2) (.int .i64 t338)) (fun _ hk => hk.2) (.bool t339)) (fun _ hk => ⟨hk.1.1.2, hk.1.2⟩)⟩, ⟨by (with_reducible repeat (first | apply Kd.R_alloc | apply Kd.R_drewN | apply Kd.R_drew)); exact Kd.R_mono (Kd.R_far (p := ⟨gb341, 3, none⟩) (Kd.R_far (p := ⟨gb341, 2, none⟩) (Kd.R_far (p := ⟨gb341, 1, none⟩) (Kd.R_far (p := ⟨gb341, 0, none⟩) (Kd.R_types HO328.out BK341.out (by decide)) (fun _ hk => hk.2) (.slice Ao15 t334.length co15)) (fun _ hk => hk.2) (.int .i64 t337)) (fun _ hk => hk.2) (.int .i64 t338)) (fun _ hk => hk.2) (.bool t339)) (fun _ hk => ⟨hk.1.1.2, hk.1.2⟩)⟩, ⟨by (with_reducible repeat (first | apply Kd.R_alloc | apply Kd.R_drewN | apply Kd.R_drew)); exact Kd.R_mono (Kd.R_far (p := ⟨gb341, 3, none⟩) (Kd.R_far (p := ⟨gb341, 2, none⟩) (Kd.R_far (p := ⟨gb341, 1, none⟩) (Kd.R_far (p := ⟨gb341, 0, none⟩) (Kd.R_types HO336.out BK341.out (by decide)) (fun _ hk => hk.2) (.slice Ao15 t334.length co15)) (fun _ hk => hk.2) (.int .i64 t337)) (fun _ hk => hk.2) (.int .i64 t338)) (fun _ hk => hk.2) (.bool t339)) (fun _ hk => ⟨hk.1.1.2, hk.1.2⟩)⟩, ⟨by (with_reducible repeat (first | refine blk_drewN ?_ _ | refine blk_drew ?_ | refine blk_alloc ?_ _)); refine blk_far ?_ NB333_341.out _; (with_reducible repeat (first | refine blk_drewN ?_ _ | refine blk_drew ?_ | refine blk_alloc ?_ _)); refine blk_far ?_ NB333_341.out _; (with_reducible repeat (first | refine blk_drewN ?_ _ | refine blk_drew ?_ | refine blk_alloc ?_ _)); refine blk_far ?_ NB333_341.out _; (with_reducible repeat (first | refine blk_drewN ?_ _ | refine blk_drew ?_ | refine blk_alloc ?_ _)); refine blk_far ?_ NB333_341.out _; (with_reducible repeat (first | refine blk_drewN ?_ _ | refine blk_drew ?_ | refine blk_alloc ?_ _)); exact BK333.out⟩, ⟨by (with_reducible repeat (first | refine blk_drewN ?_ _ | refine blk_drew ?_ | refine blk_alloc ?_ _)); refine blk_put (cs := #[.slice Ao15 t334.length co15, .int .i64 t337, .int .i64 t338, .bool false]) ?_ 3 _ rfl; (with_reducible repeat (first | refine blk_drewN ?_ _ | refine blk_drew ?_ | refine blk_alloc ?_ _)); refine blk_put (cs := #[.slice Ao15 t334.length co15, .int .i64 t337, .int .i64 0, .bool false]) ?_ 2 _ rfl; (with_reducible repeat (first | refine blk_drewN ?_ _ | refine blk_drew ?_ | refine blk_alloc ?_ _)); refine blk_put (cs := #[.slice Ao15 t334.length co15, .int .i64 0, .int .i64 0, .bool false]) ?_ 1 _ rfl; (with_reducible repeat (first | refine blk_drewN ?_ _ | refine blk_drew ?_ | refine blk_alloc ?_ _)); refine blk_put (cs := #[.slice none 0 0, .int .i64 0, .int .i64 0, .bool false]) ?_ 0 _ rfl; (with_reducible repeat (first | refine blk_drewN ?_ _ | refine blk_drew ?_ | refine blk_alloc ?_ _)); exact BK341.out⟩, ⟨by repeat (first | (with_reducible first | exact HB.out | apply below_alloc | apply pw_below_drewN | apply below_drew1 | refine below_set ?_ GE333.out | refine below_set ?_ GE341.out) | exact HB.out)⟩⟩
      · rw [if_neg c18] at H
        have c18b0 : (t332 != t340) = false := by simpa using c18
        (try (have c18b1 : decide (t332 = t340) = true := by simpa using c18))
        (try (have c18b2 : (t332 == t340) = true := by simpa using c18))
        clear c18
        (first | rw [c18b0] | (simp only [i64_w, i32_w]; rw [c18b0]) | skip)
        replace H := Option.bind_eq_some_iff.mp H
        obtain ⟨t342, A190, H⟩ := H
        replace H : (if t342 = true then (if t330 = t338 then (if (t331 != t339) = true then (laws_FnToken.j0 k t321 t323 t332 t340 true t326 t329 t330 t331 t334 t337 t338 t339) else (laws_FnToken.j0 k t321 t323 t332 t340 (!t332) t326 t329 t330 t331 t334 t337 t338 t339)) else (laws_FnToken.j0 k t321 t323 t332 t340 true t326 t329 t330 t331 t334 t337 t338 t339)) else (laws_FnToken.j0 k t321 t323 t332 t340 true t326 t329 t330 t331 t334 t337 t338 t339)) = some r := H
        have A19 := Aside0.mk A190
        clear A190
        by_cases c20 : t342 = true
        · subst c20
          have H1 : (if t330 = t338 then (if (t331 != t339) = true then (laws_FnToken.j0 k t321 t323 t332 t340 true t326 t329 t330 t331 t334 t337 t338 t339) else (laws_FnToken.j0 k t321 t323 t332 t340 (!t332) t326 t329 t330 t331 t334 t337 t338 t339)) else (laws_FnToken.j0 k t321 t323 t332 t340 true t326 t329 t330 t331 t334 t337 t338 t339)) = some r := by rw [if_pos rfl] at H; exact H
          clear H
          have H := H1
          clear H1
          by_cases c21 : t330 = t338
          · rw [if_pos c21] at H
            have c21b0 : (t330 == t338) = true := beq_iff_eq.mpr c21
            have c21b1 : (t330 != t338) = false := bne_eq_false_iff_eq.mpr c21
            clear c21
            by_cases c22 : (t331 != t339) = true
            · rw [if_pos c22] at H
              have c22b0 : (t331 != t339) = true := c22
              (try (have c22b1 : decide (t331 = t339) = false := by simpa using c22))
              (try (have c22b2 : (t331 == t339) = false := by simpa using c22))
              (try (have c22b3 : ¬ (t331 = t339) := by simpa using c22))
              clear c22
              have H' := Aside0.mk H
              clear H
              have hnb23 := NB333_341.out
              have hnc23 := NB341_333.out
              have hcz24_0 : w14.cell? ⟨gb333, 0, none⟩ = some (.slice Ao11 t326.length co11) := (blk_cell BK333.out 0).trans rfl
              have hcz24_1 : w14.cell? ⟨gb333, 1, none⟩ = some (.int .i64 t329) := (blk_cell BK333.out 1).trans rfl
              have hcz24_2 : w14.cell? ⟨gb333, 2, none⟩ = some (.int .i64 t330) := (blk_cell BK333.out 2).trans rfl
              have hcz24_3 : w14.cell? ⟨gb333, 3, none⟩ = some (.bool t331) := (blk_cell BK333.out 3).trans rfl
              have hfz24_0 := blk_frozen BK333.out 0
              have hfz24_1 := blk_frozen BK333.out 1
              have hfz24_2 := blk_frozen BK333.out 2
              have hfz24_3 := blk_frozen BK333.out 3
              have hcz25_0 : w14.cell? ⟨gb341, 0, none⟩ = some (.slice none 0 0) := (blk_cell BK341.out 0).trans rfl
              have hcz25_1 : w14.cell? ⟨gb341, 1, none⟩ = some (.int .i64 0) := (blk_cell BK341.out 1).trans rfl
              have hcz25_2 : w14.cell? ⟨gb341, 2, none⟩ = some (.int .i64 0) := (blk_cell BK341.out 2).trans rfl
              have hcz25_3 : w14.cell? ⟨gb341, 3, none⟩ = some (.bool false) := (blk_cell BK341.out 3).trans rfl
              have hfz25_0 := blk_frozen BK341.out 0
              have hfz25_1 := blk_frozen BK341.out 1
              have hfz25_2 := blk_frozen BK341.out 2
              have hfz25_3 := blk_frozen BK341.out 3
              go_wp2_with (first | (go_at_call 32; (with_reducible refine (laws_wnInts.calls k _ _ t326 _ _ t334 true _ ?side1 ?side2 ?side3 ?side4 A19.out).mono ?_); (case side1 => refine (Kd.R_reads' (e := 3) (base := w.heap.size) (ok := fun k_ => ((True ∧ some k_ ≠ (.slice Ao8 t321.length co8 : Value).ownBlock) ∧ some k_ ≠ (.slice Ao15 t334.length co15 : Value).ownBlock)) (n := t326.length) (c := co11) ?_).2.2; exact (by (with_reducible repeat (first | apply Kd.R_alloc | apply Kd.R_drewN | apply Kd.R_drew)); exact (Kd.R_mono (Kd.R_far (p := ⟨gb341, 3, none⟩) (Kd.R_far (p := ⟨gb341, 2, none⟩) (Kd.R_far (p := ⟨gb341, 1, none⟩) (Kd.R_far (p := ⟨gb341, 0, none⟩) (Kd.R_types HO328.out BK341.out (by decide)) (fun _ hk => hk.2) (.slice Ao15 t334.length co15)) (fun _ hk => hk.2) (.int .i64 t337)) (fun _ hk => hk.2) (.int .i64 t338)) (fun _ hk => hk.2) (.bool t339)) (fun _ h_ => h_.1)))); (case side2 => exact (Kd.R_reads' HO328.out).2.1); (case side3 => refine (Kd.R_reads' (e := 3) (base := w.heap.size) (ok := fun k_ => ((True ∧ some k_ ≠ (.slice Ao8 t321.length co8 : Value).ownBlock) ∧ some k_ ≠ (.slice Ao11 t326.length co11 : Value).ownBlock)) (n := t334.length) (c := co15) ?_).2.2; exact (by (with_reducible repeat (first | apply Kd.R_alloc | apply Kd.R_drewN | apply Kd.R_drew)); exact (Kd.R_mono (Kd.R_far (p := ⟨gb341, 3, none⟩) (Kd.R_far (p := ⟨gb341, 2, none⟩) (Kd.R_far (p := ⟨gb341, 1, none⟩) (Kd.R_far (p := ⟨gb341, 0, none⟩) (Kd.R_types HO336.out BK341.out (by decide)) (fun _ hk => hk.2) (.slice Ao15 t334.length co15)) (fun _ hk => hk.2) (.int .i64 t337)) (fun _ hk => hk.2) (.int .i64 t338)) (fun _ hk => hk.2) (.bool t339)) (fun _ h_ => h_.1)))); (case side4 => exact (Kd.R_reads' HO336.out).2.1); rintro e w' ⟨rfl, ⟨nd, rfl⟩⟩))
              go_meet
              case rel => exact ⟨_, (true), (by first | rfl | (simp; done) | (simp [*]; done)), H', ⟨by first | omega | exact Nat.le_refl _⟩, ⟨by (with_reducible repeat (first | apply Kd.R_alloc | apply Kd.R_drewN | apply Kd.R_drew)); exact Kd.R_mono (Kd.R_far (p := ⟨gb341, 3, none⟩) (Kd.R_far (p := ⟨gb341, 2, none⟩) (Kd.R_far (p := ⟨gb341, 1, none⟩) (Kd.R_far (p := ⟨gb341, 0, none⟩) (Kd.R_types HO325.out BK341.out (by decide)) (fun _ hk => hk.2) (.slice Ao15 t334.length co15)) (fun _ hk => hk.2) (.int .i64 t337)) (fun _ hk => hk.2) (.int .i64 t338)) (fun _ hk => hk.2) (.bool t339)) (fun _ hk => ⟨hk.1.1.2, hk.1.2⟩)⟩, ⟨by (with_reducible repeat (first | apply Kd.R_alloc | apply Kd.R_drewN | apply Kd.R_drew)); exact Kd.R_mono (Kd.R_far (p := ⟨gb341, 3, none⟩) (Kd.R_far (p := ⟨gb341, 2, none⟩) (Kd.R_far (p := ⟨gb341, 1, none⟩) (Kd.R_far (p := ⟨gb341, 0, none⟩) (Kd.R_types HO328.out BK341.out (by decide)) (fun _ hk => hk.2) (.slice Ao15 t334.length co15)) (fun _ hk => hk.2) (.int .i64 t337)) (fun _ hk => hk.2) (.int .i64 t338)) (fun _ hk => hk.2) (.bool t339)) (fun _ hk => ⟨hk.1.1.2, hk.1.2⟩)⟩, ⟨by (with_reducible repeat (first | apply Kd.R_alloc | apply Kd.R_drewN | apply Kd.R_drew)); exact Kd.R_mono (Kd.R_far (p := ⟨gb341, 3, none⟩) (Kd.R_far (p := ⟨gb341, 2, none⟩) (Kd.R_far (p := ⟨gb341, 1, none⟩) (Kd.R_far (p := ⟨gb341, 0, none⟩) (Kd.R_types HO336.out BK341.out (by decide)) (fun _ hk => hk.2) (.slice Ao15 t334.length co15)) (fun _ hk => hk.2) (.int .i64 t337)) (fun _ hk => hk.2) (.int .i64 t338)) (fun _ hk => hk.2) (.bool t339)) (fun _ hk => ⟨hk.1.1.2, hk.1.2⟩)⟩, ⟨by (with_reducible repeat (first | refine blk_drewN ?_ _ | refine blk_drew ?_ | refine blk_alloc ?_ _)); refine blk_far ?_ NB333_341.out _; (with_reducible repeat (first | refine blk_drewN ?_ _ | refine blk_drew ?_ | refine blk_alloc ?_ _)); refine blk_far ?_ NB333_341.out _; (with_reducible repeat (first | refine blk_drewN ?_ _ | refine blk_drew ?_ | refine blk_alloc ?_ _)); refine blk_far ?_ NB333_341.out _; (with_reducible repeat (first | refine blk_drewN ?_ _ | refine blk_drew ?_ | refine blk_alloc ?_ _)); refine blk_far ?_ NB333_341.out _; (with_reducible repeat (first | refine blk_drewN ?_ _ | refine blk_drew ?_ | refine blk_alloc ?_ _)); exact BK333.out⟩, ⟨by (with_reducible repeat (first | refine blk_drewN ?_ _ | refine blk_drew ?_ | refine blk_alloc ?_ _)); refine blk_put (cs := #[.slice Ao15 t334.length co15, .int .i64 t337, .int .i64 t338, .bool false]) ?_ 3 _ rfl; (with_reducible repeat (first | refine blk_drewN ?_ _ | refine blk_drew ?_ | refine blk_alloc ?_ _)); refine blk_put (cs := #[.slice Ao15 t334.length co15, .int .i64 t337, .int .i64 0, .bool false]) ?_ 2 _ rfl; (with_reducible repeat (first | refine blk_drewN ?_ _ | refine blk_drew ?_ | refine blk_alloc ?_ _)); refine blk_put (cs := #[.slice Ao15 t334.length co15, .int .i64 0, .int .i64 0, .bool false]) ?_ 1 _ rfl; (with_reducible repeat (first | refine blk_drewN ?_ _ | refine blk_drew ?_ | refine blk_alloc ?_ _)); refine blk_put (cs := #[.slice none 0 0, .int .i64 0, .int .i64 0, .bool false]) ?_ 0 _ rfl; (with_reducible repeat (first | refine blk_drewN ?_ _ | refine blk_drew ?_ | refine blk_alloc ?_ _)); exact BK341.out⟩, ⟨by repeat (first | (with_reducible first | exact HB.out | apply below_alloc | apply pw_below_drewN | apply below_drew1 | refine below_set ?_ GE333.out | refine below_set ?_ GE341.out) | exact HB.out)⟩⟩
            · rw [if_neg c22] at H
              have c22b0 : (t331 != t339) = false := by simpa using c22
              (try (have c22b1 : decide (t331 = t339) = true := by simpa using c22))
              (try (have c22b2 : (t331 == t339) = true := by simpa using c22))
              clear c22
              have H' := Aside0.mk H
              clear H
              have hnb26 := NB333_341.out
              have hnc26 := NB341_333.out
              have hcz27_0 : w14.cell? ⟨gb333, 0, none⟩ = some (.slice Ao11 t326.length co11) := (blk_cell BK333.out 0).trans rfl
              have hcz27_1 : w14.cell? ⟨gb333, 1, none⟩ = some (.int .i64 t329) := (blk_cell BK333.out 1).trans rfl
              have hcz27_2 : w14.cell? ⟨gb333, 2, none⟩ = some (.int .i64 t330) := (blk_cell BK333.out 2).trans rfl
              have hcz27_3 : w14.cell? ⟨gb333, 3, none⟩ = some (.bool t331) := (blk_cell BK333.out 3).trans rfl
              have hfz27_0 := blk_frozen BK333.out 0
              have hfz27_1 := blk_frozen BK333.out 1
              have hfz27_2 := blk_frozen BK333.out 2
              have hfz27_3 := blk_frozen BK333.out 3
              have hcz28_0 : w14.cell? ⟨gb341, 0, none⟩ = some (.slice none 0 0) := (blk_cell BK341.out 0).trans rfl
              have hcz28_1 : w14.cell? ⟨gb341, 1, none⟩ = some (.int .i64 0) := (blk_cell BK341.out 1).trans rfl
              have hcz28_2 : w14.cell? ⟨gb341, 2, none⟩ = some (.int .i64 0) := (blk_cell BK341.out 2).trans rfl
              have hcz28_3 : w14.cell? ⟨gb341, 3, none⟩ = some (.bool false) := (blk_cell BK341.out 3).trans rfl
              have hfz28_0 := blk_frozen BK341.out 0
              have hfz28_1 := blk_frozen BK341.out 1
              have hfz28_2 := blk_frozen BK341.out 2
              have hfz28_3 := blk_frozen BK341.out 3
              go_wp2_with (first | (go_at_call 32; (with_reducible refine (laws_wnInts.calls k _ _ t326 _ _ t334 true _ ?side1 ?side2 ?side3 ?side4 A19.out).mono ?_); (case side1 => refine (Kd.R_reads' (e := 3) (base := w.heap.size) (ok := fun k_ => ((True ∧ some k_ ≠ (.slice Ao8 t321.length co8 : Value).ownBlock) ∧ some k_ ≠ (.slice Ao15 t334.length co15 : Value).ownBlock)) (n := t326.length) (c := co11) ?_).2.2; exact (by (with_reducible repeat (first | apply Kd.R_alloc | apply Kd.R_drewN | apply Kd.R_drew)); exact (Kd.R_mono (Kd.R_far (p := ⟨gb341, 3, none⟩) (Kd.R_far (p := ⟨gb341, 2, none⟩) (Kd.R_far (p := ⟨gb341, 1, none⟩) (Kd.R_far (p := ⟨gb341, 0, none⟩) (Kd.R_types HO328.out BK341.out (by decide)) (fun _ hk => hk.2) (.slice Ao15 t334.length co15)) (fun _ hk => hk.2) (.int .i64 t337)) (fun _ hk => hk.2) (.int .i64 t338)) (fun _ hk => hk.2) (.bool t339)) (fun _ h_ => h_.1)))); (case side2 => exact (Kd.R_reads' HO328.out).2.1); (case side3 => refine (Kd.R_reads' (e := 3) (base := w.heap.size) (ok := fun k_ => ((True ∧ some k_ ≠ (.slice Ao8 t321.length co8 : Value).ownBlock) ∧ some k_ ≠ (.slice Ao11 t326.length co11 : Value).ownBlock)) (n := t334.length) (c := co15) ?_).2.2; exact (by (with_reducible repeat (first | apply Kd.R_alloc | apply Kd.R_drewN | apply Kd.R_drew)); exact (Kd.R_mono (Kd.R_far (p := ⟨gb341, 3, none⟩) (Kd.R_far (p := ⟨gb341, 2, none⟩) (Kd.R_far (p := ⟨gb341, 1, none⟩) (Kd.R_far (p := ⟨gb341, 0, none⟩) (Kd.R_types HO336.out BK341.out (by decide)) (fun _ hk => hk.2) (.slice Ao15 t334.length co15)) (fun _ hk => hk.2) (.int .i64 t337)) (fun _ hk => hk.2) (.int .i64 t338)) (fun _ hk => hk.2) (.bool t339)) (fun _ h_ => h_.1)))); (case side4 => exact (Kd.R_reads' HO336.out).2.1); rintro e w' ⟨rfl, ⟨nd, rfl⟩⟩))
              go_meet
              case rel => exact ⟨_, (!t332), (by first | rfl | (simp; done) | (simp [*]; done)), H', ⟨by first | omega | exact Nat.le_refl _⟩, ⟨by (with_reducible repeat (first | apply Kd.R_alloc | apply Kd.R_drewN | apply Kd.R_drew)); exact Kd.R_mono (Kd.R_far (p := ⟨gb341, 3, none⟩) (Kd.R_far (p := ⟨gb341, 2, none⟩) (Kd.R_far (p := ⟨gb341, 1, none⟩) (Kd.R_far (p := ⟨gb341, 0, none⟩) (Kd.R_types HO325.out BK341.out (by decide)) (fun _ hk => hk.2) (.slice Ao15 t334.length co15)) (fun _ hk => hk.2) (.int .i64 t337)) (fun _ hk => hk.2) (.int .i64 t338)) (fun _ hk => hk.2) (.bool t339)) (fun _ hk => ⟨hk.1.1.2, hk.1.2⟩)⟩, ⟨by (with_reducible repeat (first | apply Kd.R_alloc | apply Kd.R_drewN | apply Kd.R_drew)); exact Kd.R_mono (Kd.R_far (p := ⟨gb341, 3, none⟩) (Kd.R_far (p := ⟨gb341, 2, none⟩) (Kd.R_far (p := ⟨gb341, 1, none⟩) (Kd.R_far (p := ⟨gb341, 0, none⟩) (Kd.R_types HO328.out BK341.out (by decide)) (fun _ hk => hk.2) (.slice Ao15 t334.length co15)) (fun _ hk => hk.2) (.int .i64 t337)) (fun _ hk => hk.2) (.int .i64 t338)) (fun _ hk => hk.2) (.bool t339)) (fun _ hk => ⟨hk.1.1.2, hk.1.2⟩)⟩, ⟨by (with_reducible repeat (first | apply Kd.R_alloc | apply Kd.R_drewN | apply Kd.R_drew)); exact Kd.R_mono (Kd.R_far (p := ⟨gb341, 3, none⟩) (Kd.R_far (p := ⟨gb341, 2, none⟩) (Kd.R_far (p := ⟨gb341, 1, none⟩) (Kd.R_far (p := ⟨gb341, 0, none⟩) (Kd.R_types HO336.out BK341.out (by decide)) (fun _ hk => hk.2) (.slice Ao15 t334.length co15)) (fun _ hk => hk.2) (.int .i64 t337)) (fun _ hk => hk.2) (.int .i64 t338)) (fun _ hk => hk.2) (.bool t339)) (fun _ hk => ⟨hk.1.1.2, hk.1.2⟩)⟩, ⟨by (with_reducible repeat (first | refine blk_drewN ?_ _ | refine blk_drew ?_ | refine blk_alloc ?_ _)); refine blk_far ?_ NB333_341.out _; (with_reducible repeat (first | refine blk_drewN ?_ _ | refine blk_drew ?_ | refine blk_alloc ?_ _)); refine blk_far ?_ NB333_341.out _; (with_reducible repeat (first | refine blk_drewN ?_ _ | refine blk_drew ?_ | refine blk_alloc ?_ _)); refine blk_far ?_ NB333_341.out _; (with_reducible repeat (first | refine blk_drewN ?_ _ | refine blk_drew ?_ | refine blk_alloc ?_ _)); refine blk_far ?_ NB333_341.out _; (with_reducible repeat (first | refine blk_drewN ?_ _ | refine blk_drew ?_ | refine blk_alloc ?_ _)); exact BK333.out⟩, ⟨by (with_reducible repeat (first | refine blk_drewN ?_ _ | refine blk_drew ?_ | refine blk_alloc ?_ _)); refine blk_put (cs := #[.slice Ao15 t334.length co15, .int .i64 t337, .int .i64 t338, .bool false]) ?_ 3 _ rfl; (with_reducible repeat (first | refine blk_drewN ?_ _ | refine blk_drew ?_ | refine blk_alloc ?_ _)); refine blk_put (cs := #[.slice Ao15 t334.length co15, .int .i64 t337, .int .i64 0, .bool false]) ?_ 2 _ rfl; (with_reducible repeat (first | refine blk_drewN ?_ _ | refine blk_drew ?_ | refine blk_alloc ?_ _)); refine blk_put (cs := #[.slice Ao15 t334.length co15, .int .i64 0, .int .i64 0, .bool false]) ?_ 1 _ rfl; (with_reducible repeat (first | refine blk_drewN ?_ _ | refine blk_drew ?_ | refine blk_alloc ?_ _)); refine blk_put (cs := #[.slice none 0 0, .int .i64 0, .int .i64 0, .bool false]) ?_ 0 _ rfl; (with_reducible repeat (first | refine blk_drewN ?_ _ | refine blk_drew ?_ | refine blk_alloc ?_ _)); exact BK341.out⟩, ⟨by repeat (first | (with_reducible first | exact HB.out | apply below_alloc | apply pw_below_drewN | apply below_drew1 | refine below_set ?_ GE333.out | refine below_set ?_ GE341.out) | exact HB.out)⟩⟩
          · rw [if_neg c21] at H
            have c21b0 : (t330 == t338) = false := beq_eq_false_iff_ne.mpr c21
            have c21b1 : (t330 != t338) = true := bne_iff_ne.mpr c21
            have H' := Aside0.mk H
            clear H
            have hnb29 := NB333_341.out
            have hnc29 := NB341_333.out
            have hcz30_0 : w14.cell? ⟨gb333, 0, none⟩ = some (.slice Ao11 t326.length co11) := (blk_cell BK333.out 0).trans rfl
            have hcz30_1 : w14.cell? ⟨gb333, 1, none⟩ = some (.int .i64 t329) := (blk_cell BK333.out 1).trans rfl
            have hcz30_2 : w14.cell? ⟨gb333, 2, none⟩ = some (.int .i64 t330) := (blk_cell BK333.out 2).trans rfl
            have hcz30_3 : w14.cell? ⟨gb333, 3, none⟩ = some (.bool t331) := (blk_cell BK333.out 3).trans rfl
            have hfz30_0 := blk_frozen BK333.out 0
            have hfz30_1 := blk_frozen BK333.out 1
            have hfz30_2 := blk_frozen BK333.out 2
            have hfz30_3 := blk_frozen BK333.out 3
            have hcz31_0 : w14.cell? ⟨gb341, 0, none⟩ = some (.slice none 0 0) := (blk_cell BK341.out 0).trans rfl
            have hcz31_1 : w14.cell? ⟨gb341, 1, none⟩ = some (.int .i64 0) := (blk_cell BK341.out 1).trans rfl
            have hcz31_2 : w14.cell? ⟨gb341, 2, none⟩ = some (.int .i64 0) := (blk_cell BK341.out 2).trans rfl
            have hcz31_3 : w14.cell? ⟨gb341, 3, none⟩ = some (.bool false) := (blk_cell BK341.out 3).trans rfl
            have hfz31_0 := blk_frozen BK341.out 0
            have hfz31_1 := blk_frozen BK341.out 1
            have hfz31_2 := blk_frozen BK341.out 2
            have hfz31_3 := blk_frozen BK341.out 3
            go_wp2_with (first | (go_at_call 32; (with_reducible refine (laws_wnInts.calls k _ _ t326 _ _ t334 true _ ?side1 ?side2 ?side3 ?side4 A19.out).mono ?_); (case side1 => refine (Kd.R_reads' (e := 3) (base := w.heap.size) (ok := fun k_ => ((True ∧ some k_ ≠ (.slice Ao8 t321.length co8 : Value).ownBlock) ∧ some k_ ≠ (.slice Ao15 t334.length co15 : Value).ownBlock)) (n := t326.length) (c := co11) ?_).2.2; exact (by (with_reducible repeat (first | apply Kd.R_alloc | apply Kd.R_drewN | apply Kd.R_drew)); exact (Kd.R_mono (Kd.R_far (p := ⟨gb341, 3, none⟩) (Kd.R_far (p := ⟨gb341, 2, none⟩) (Kd.R_far (p := ⟨gb341, 1, none⟩) (Kd.R_far (p := ⟨gb341, 0, none⟩) (Kd.R_types HO328.out BK341.out (by decide)) (fun _ hk => hk.2) (.slice Ao15 t334.length co15)) (fun _ hk => hk.2) (.int .i64 t337)) (fun _ hk => hk.2) (.int .i64 t338)) (fun _ hk => hk.2) (.bool t339)) (fun _ h_ => h_.1)))); (case side2 => exact (Kd.R_reads' HO328.out).2.1); (case side3 => refine (Kd.R_reads' (e := 3) (base := w.heap.size) (ok := fun k_ => ((True ∧ some k_ ≠ (.slice Ao8 t321.length co8 : Value).ownBlock) ∧ some k_ ≠ (.slice Ao11 t326.length co11 : Value).ownBlock)) (n := t334.length) (c := co15) ?_).2.2; exact (by (with_reducible repeat (first | apply Kd.R_alloc | apply Kd.R_drewN | apply Kd.R_drew)); exact (Kd.R_mono (Kd.R_far (p := ⟨gb341, 3, none⟩) (Kd.R_far (p := ⟨gb341, 2, none⟩) (Kd.R_far (p := ⟨gb341, 1, none⟩) (Kd.R_far (p := ⟨gb341, 0, none⟩) (Kd.R_types HO336.out BK341.out (by decide)) (fun _ hk => hk.2) (.slice Ao15 t334.length co15)) (fun _ hk => hk.2) (.int .i64 t337)) (fun _ hk => hk.2) (.int .i64 t338)) (fun _ hk => hk.2) (.bool t339)) (fun _ h_ => h_.1)))); (case side4 => exact (Kd.R_reads' HO336.out).2.1); rintro e w' ⟨rfl, ⟨nd, rfl⟩⟩))
            go_meet
            case rel => exact ⟨_, (true), (by first | rfl | (simp; done) | (simp [*]; done)), H', ⟨by first | omega | exact Nat.le_refl _⟩, ⟨by (with_reducible repeat (first | apply Kd.R_alloc | apply Kd.R_drewN | apply Kd.R_drew)); exact Kd.R_mono (Kd.R_far (p := ⟨gb341, 3, none⟩) (Kd.R_far (p := ⟨gb341, 2, none⟩) (Kd.R_far (p := ⟨gb341, 1, none⟩) (Kd.R_far (p := ⟨gb341, 0, none⟩) (Kd.R_types HO325.out BK341.out (by decide)) (fun _ hk => hk.2) (.slice Ao15 t334.length co15)) (fun _ hk => hk.2) (.int .i64 t337)) (fun _ hk => hk.2) (.int .i64 t338)) (fun _ hk => hk.2) (.bool t339)) (fun _ hk => ⟨hk.1.1.2, hk.1.2⟩)⟩, ⟨by (with_reducible repeat (first | apply Kd.R_alloc | apply Kd.R_drewN | apply Kd.R_drew)); exact Kd.R_mono (Kd.R_far (p := ⟨gb341, 3, none⟩) (Kd.R_far (p := ⟨gb341, 2, none⟩) (Kd.R_far (p := ⟨gb341, 1, none⟩) (Kd.R_far (p := ⟨gb341, 0, none⟩) (Kd.R_types HO328.out BK341.out (by decide)) (fun _ hk => hk.2) (.slice Ao15 t334.length co15)) (fun _ hk => hk.2) (.int .i64 t337)) (fun _ hk => hk.2) (.int .i64 t338)) (fun _ hk => hk.2) (.bool t339)) (fun _ hk => ⟨hk.1.1.2, hk.1.2⟩)⟩, ⟨by (with_reducible repeat (first | apply Kd.R_alloc | apply Kd.R_drewN | apply Kd.R_drew)); exact Kd.R_mono (Kd.R_far (p := ⟨gb341, 3, none⟩) (Kd.R_far (p := ⟨gb341, 2, none⟩) (Kd.R_far (p := ⟨gb341, 1, none⟩) (Kd.R_far (p := ⟨gb341, 0, none⟩) (Kd.R_types HO336.out BK341.out (by decide)) (fun _ hk => hk.2) (.slice Ao15 t334.length co15)) (fun _ hk => hk.2) (.int .i64 t337)) (fun _ hk => hk.2) (.int .i64 t338)) (fun _ hk => hk.2) (.bool t339)) (fun _ hk => ⟨hk.1.1.2, hk.1.2⟩)⟩, ⟨by (with_reducible repeat (first | refine blk_drewN ?_ _ | refine blk_drew ?_ | refine blk_alloc ?_ _)); refine blk_far ?_ NB333_341.out _; (with_reducible repeat (first | refine blk_drewN ?_ _ | refine blk_drew ?_ | refine blk_alloc ?_ _)); refine blk_far ?_ NB333_341.out _; (with_reducible repeat (first | refine blk_drewN ?_ _ | refine blk_drew ?_ | refine blk_alloc ?_ _)); refine blk_far ?_ NB333_341.out _; (with_reducible repeat (first | refine blk_drewN ?_ _ | refine blk_drew ?_ | refine blk_alloc ?_ _)); refine blk_far ?_ NB333_341.out _; (with_reducible repeat (first | refine blk_drewN ?_ _ | refine blk_drew ?_ | refine blk_alloc ?_ _)); exact BK333.out⟩, ⟨by (with_reducible repeat (first | refine blk_drewN ?_ _ | refine blk_drew ?_ | refine blk_alloc ?_ _)); refine blk_put (cs := #[.slice Ao15 t334.length co15, .int .i64 t337, .int .i64 t338, .bool false]) ?_ 3 _ rfl; (with_reducible repeat (first | refine blk_drewN ?_ _ | refine blk_drew ?_ | refine blk_alloc ?_ _)); refine blk_put (cs := #[.slice Ao15 t334.length co15, .int .i64 t337, .int .i64 0, .bool false]) ?_ 2 _ rfl; (with_reducible repeat (first | refine blk_drewN ?_ _ | refine blk_drew ?_ | refine blk_alloc ?_ _)); refine blk_put (cs := #[.slice Ao15 t334.length co15, .int .i64 0, .int .i64 0, .bool false]) ?_ 1 _ rfl; (with_reducible repeat (first | refine blk_drewN ?_ _ | refine blk_drew ?_ | refine blk_alloc ?_ _)); refine blk_put (cs := #[.slice none 0 0, .int .i64 0, .int .i64 0, .bool false]) ?_ 0 _ rfl; (with_reducible repeat (first | refine blk_drewN ?_ _ | refine blk_drew ?_ | refine blk_alloc ?_ _)); exact BK341.out⟩, ⟨by repeat (first | (with_reducible first | exact HB.out | apply below_alloc | apply pw_below_drewN | apply below_drew1 | refine below_set ?_ GE333.out | refine below_set ?_ GE341.out) | exact HB.out)⟩⟩
        · replace c20 := Bool.eq_false_iff.mpr c20
          subst c20
          have H1 : (laws_FnToken.j0 k t321 t323 t332 t340 true t326 t329 t330 t331 t334 t337 t338 t339) = some r := by rw [if_neg (show ¬ (false = true) by decide)] at H; exact H
          clear H
          have H := H1
          clear H1
          have H' := Aside0.mk H
          clear H
          have hnb32 := NB333_341.out
          have hnc32 := NB341_333.out
          have hcz33_0 : w14.cell? ⟨gb333, 0, none⟩ = some (.slice Ao11 t326.length co11) := (blk_cell BK333.out 0).trans rfl
          have hcz33_1 : w14.cell? ⟨gb333, 1, none⟩ = some (.int .i64 t329) := (blk_cell BK333.out 1).trans rfl
          have hcz33_2 : w14.cell? ⟨gb333, 2, none⟩ = some (.int .i64 t330) := (blk_cell BK333.out 2).trans rfl
          have hcz33_3 : w14.cell? ⟨gb333, 3, none⟩ = some (.bool t331) := (blk_cell BK333.out 3).trans rfl
          have hfz33_0 := blk_frozen BK333.out 0
          have hfz33_1 := blk_frozen BK333.out 1
          have hfz33_2 := blk_frozen BK333.out 2
          have hfz33_3 := blk_frozen BK333.out 3
          have hcz34_0 : w14.cell? ⟨gb341, 0, none⟩ = some (.slice none 0 0) := (blk_cell BK341.out 0).trans rfl
          have hcz34_1 : w14.cell? ⟨gb341, 1, none⟩ = some (.int .i64 0) := (blk_cell BK341.out 1).trans rfl
          have hcz34_2 : w14.cell? ⟨gb341, 2, none⟩ = some (.int .i64 0) := (blk_cell BK341.out 2).trans rfl
          have hcz34_3 : w14.cell? ⟨gb341, 3, none⟩ = some (.bool false) := (blk_cell BK341.out 3).trans rfl
          have hfz34_0 := blk_frozen BK341.out 0
          have hfz34_1 := blk_frozen BK341.out 1
          have hfz34_2 := blk_frozen BK341.out 2
          have hfz34_3 := blk_frozen BK341.out 3
          go_wp2_with (first | (go_at_call 32; (with_reducible refine (laws_wnInts.calls k _ _ t326 _ _ t334 false _ ?side1 ?side2 ?side3 ?side4 A19.out).mono ?_); (case side1 => refine (Kd.R_reads' (e := 3) (base := w.heap.size) (ok := fun k_ => ((True ∧ some k_ ≠ (.slice Ao8 t321.length co8 : Value).ownBlock) ∧ some k_ ≠ (.slice Ao15 t334.length co15 : Value).ownBlock)) (n := t326.length) (c := co11) ?_).2.2; exact (by (with_reducible repeat (first | apply Kd.R_alloc | apply Kd.R_drewN | apply Kd.R_drew)); exact (Kd.R_mono (Kd.R_far (p := ⟨gb341, 3, none⟩) (Kd.R_far (p := ⟨gb341, 2, none⟩) (Kd.R_far (p := ⟨gb341, 1, none⟩) (Kd.R_far (p := ⟨gb341, 0, none⟩) (Kd.R_types HO328.out BK341.out (by decide)) (fun _ hk => hk.2) (.slice Ao15 t334.length co15)) (fun _ hk => hk.2) (.int .i64 t337)) (fun _ hk => hk.2) (.int .i64 t338)) (fun _ hk => hk.2) (.bool t339)) (fun _ h_ => h_.1)))); (case side2 => exact (Kd.R_reads' HO328.out).2.1); (case side3 => refine (Kd.R_reads' (e := 3) (base := w.heap.size) (ok := fun k_ => ((True ∧ some k_ ≠ (.slice Ao8 t321.length co8 : Value).ownBlock) ∧ some k_ ≠ (.slice Ao11 t326.length co11 : Value).ownBlock)) (n := t334.length) (c := co15) ?_).2.2; exact (by (with_reducible repeat (first | apply Kd.R_alloc | apply Kd.R_drewN | apply Kd.R_drew)); exact (Kd.R_mono (Kd.R_far (p := ⟨gb341, 3, none⟩) (Kd.R_far (p := ⟨gb341, 2, none⟩) (Kd.R_far (p := ⟨gb341, 1, none⟩) (Kd.R_far (p := ⟨gb341, 0, none⟩) (Kd.R_types HO336.out BK341.out (by decide)) (fun _ hk => hk.2) (.slice Ao15 t334.length co15)) (fun _ hk => hk.2) (.int .i64 t337)) (fun _ hk => hk.2) (.int .i64 t338)) (fun _ hk => hk.2) (.bool t339)) (fun _ h_ => h_.1)))); (case side4 => exact (Kd.R_reads' HO336.out).2.1); rintro e w' ⟨rfl, ⟨nd, rfl⟩⟩))
          go_meet
          case rel => exact ⟨_, (true), (by first | rfl | (simp; done) | (simp [*]; done)), H', ⟨by first | omega | exact Nat.le_refl _⟩, ⟨by (with_reducible repeat (first | apply Kd.R_alloc | apply Kd.R_drewN | apply Kd.R_drew)); exact Kd.R_mono (Kd.R_far (p := ⟨gb341, 3, none⟩) (Kd.R_far (p := ⟨gb341, 2, none⟩) (Kd.R_far (p := ⟨gb341, 1, none⟩) (Kd.R_far (p := ⟨gb341, 0, none⟩) (Kd.R_types HO325.out BK341.out (by decide)) (fun _ hk => hk.2) (.slice Ao15 t334.length co15)) (fun _ hk => hk.2) (.int .i64 t337)) (fun _ hk => hk.2) (.int .i64 t338)) (fun _ hk => hk.2) (.bool t339)) (fun _ hk => ⟨hk.1.1.2, hk.1.2⟩)⟩, ⟨by (with_reducible repeat (first | apply Kd.R_alloc | apply Kd.R_drewN | apply Kd.R_drew)); exact Kd.R_mono (Kd.R_far (p := ⟨gb341, 3, none⟩) (Kd.R_far (p := ⟨gb341, 2, none⟩) (Kd.R_far (p := ⟨gb341, 1, none⟩) (Kd.R_far (p := ⟨gb341, 0, none⟩) (Kd.R_types HO328.out BK341.out (by decide)) (fun _ hk => hk.2) (.slice Ao15 t334.length co15)) (fun _ hk => hk.2) (.int .i64 t337)) (fun _ hk => hk.2) (.int .i64 t338)) (fun _ hk => hk.2) (.bool t339)) (fun _ hk => ⟨hk.1.1.2, hk.1.2⟩)⟩, ⟨by (with_reducible repeat (first | apply Kd.R_alloc | apply Kd.R_drewN | apply Kd.R_drew)); exact Kd.R_mono (Kd.R_far (p := ⟨gb341, 3, none⟩) (Kd.R_far (p := ⟨gb341, 2, none⟩) (Kd.R_far (p := ⟨gb341, 1, none⟩) (Kd.R_far (p := ⟨gb341, 0, none⟩) (Kd.R_types HO336.out BK341.out (by decide)) (fun _ hk => hk.2) (.slice Ao15 t334.length co15)) (fun _ hk => hk.2) (.int .i64 t337)) (fun _ hk => hk.2) (.int .i64 t338)) (fun _ hk => hk.2) (.bool t339)) (fun _ hk => ⟨hk.1.1.2, hk.1.2⟩)⟩, ⟨by (with_reducible repeat (first | refine blk_drewN ?_ _ | refine blk_drew ?_ | refine blk_alloc ?_ _)); refine blk_far ?_ NB333_341.out _; (with_reducible repeat (first | refine blk_drewN ?_ _ | refine blk_drew ?_ | refine blk_alloc ?_ _)); refine blk_far ?_ NB333_341.out _; (with_reducible repeat (first | refine blk_drewN ?_ _ | refine blk_drew ?_ | refine blk_alloc ?_ _)); refine blk_far ?_ NB333_341.out _; (with_reducible repeat (first | refine blk_drewN ?_ _ | refine blk_drew ?_ | refine blk_alloc ?_ _)); refine blk_far ?_ NB333_341.out _; (with_reducible repeat (first | refine blk_drewN ?_ _ | refine blk_drew ?_ | refine blk_alloc ?_ _)); exact BK333.out⟩, ⟨by (with_reducible repeat (first | refine blk_drewN ?_ _ | refine blk_drew ?_ | refine blk_alloc ?_ _)); refine blk_put (cs := #[.slice Ao15 t334.length co15, .int .i64 t337, .int .i64 t338, .bool false]) ?_ 3 _ rfl; (with_reducible repeat (first | refine blk_drewN ?_ _ | refine blk_drew ?_ | refine blk_alloc ?_ _)); refine blk_put (cs := #[.slice Ao15 t334.length co15, .int .i64 t337, .int .i64 0, .bool false]) ?_ 2 _ rfl; (with_reducible repeat (first | refine blk_drewN ?_ _ | refine blk_drew ?_ | refine blk_alloc ?_ _)); refine blk_put (cs := #[.slice Ao15 t334.length co15, .int .i64 0, .int .i64 0, .bool false]) ?_ 1 _ rfl; (with_reducible repeat (first | refine blk_drewN ?_ _ | refine blk_drew ?_ | refine blk_alloc ?_ _)); refine blk_put (cs := #[.slice none 0 0, .int .i64 0, .int .i64 0, .bool false]) ?_ 0 _ rfl; (with_reducible repeat (first | refine blk_drewN ?_ _ | refine blk_drew ?_ | refine blk_alloc ?_ _)); exact BK341.out⟩, ⟨by repeat (first | (with_reducible first | exact HB.out | apply below_alloc | apply pw_below_drewN | apply below_drew1 | refine below_set ?_ GE333.out | refine below_set ?_ GE341.out) | exact HB.out)⟩⟩
    case rest =>
      clear HC6
      try clear c1
      try clear c2
      try clear c2b0
      try clear c2b1
      try clear p2
      try clear c3
      try clear c8
      try clear c16
      try clear c18
      try clear c18b0
      try clear c18b1
      try clear c18b2
      try clear c20
      try clear c21
      try clear c21b0
      try clear c21b1
      try clear c22
      try clear c22b0
      try clear c22b1
      try clear c22b2
      try clear c23
      try clear c26
      try clear c29
      try clear c30
      try clear c31
      try clear c32
      try clear hcz12_0
      try clear hcz12_1
      try clear hcz12_2
      try clear hcz12_3
      try clear hcz17_0
      try clear hcz17_1
      try clear hcz17_2
      try clear hcz17_3
      try clear hcz24_0
      try clear hcz24_1
      try clear hcz24_2
      try clear hcz24_3
      try clear hcz25_0
      try clear hcz25_1
      try clear hcz25_2
      try clear hcz25_3
      try clear hcz27_0
      try clear hcz27_1
      try clear hcz27_2
      try clear hcz27_3
      try clear hcz28_0
      try clear hcz28_1
      try clear hcz28_2
      try clear hcz28_3
      try clear hcz30_0
      try clear hcz30_1
      try clear hcz30_2
      try clear hcz30_3
      try clear hcz31_0
      try clear hcz31_1
      try clear hcz31_2
      try clear hcz31_3
      try clear hcz33_0
      try clear hcz33_1
      try clear hcz33_2
      try clear hcz33_3
      try clear hcz34_0
      try clear hcz34_1
      try clear hcz34_2
      try clear hcz34_3
      try clear hfz12_0
      try clear hfz12_1
      try clear hfz12_2
      try clear hfz12_3
      try clear hfz17_0
      try clear hfz17_1
      try clear hfz17_2
      try clear hfz17_3
      try clear hfz24_0
      try clear hfz24_1
      try clear hfz24_2
      try clear hfz24_3
      try clear hfz25_0
      try clear hfz25_1
      try clear hfz25_2
      try clear hfz25_3
      try clear hfz27_0
      try clear hfz27_1
      try clear hfz27_2
      try clear hfz27_3
      try clear hfz28_0
      try clear hfz28_1
      try clear hfz28_2
      try clear hfz28_3
      try clear hfz30_0
      try clear hfz30_1
      try clear hfz30_2
      try clear hfz30_3
      try clear hfz31_0
      try clear hfz31_1
      try clear hfz31_2
      try clear hfz31_3
      try clear hfz33_0
      try clear hfz33_1
      try clear hfz33_2
      try clear hfz33_3
      try clear hfz34_0
      try clear hfz34_1
      try clear hfz34_2
      try clear hfz34_3
      obtain ⟨kq, x64_5, rfl, HA, HJ5, HO_3, HO_334000, HO_342000, BK333, BK341, HB⟩ := hcut
      cases kq with
      | zero => exact absurd HA.out (by simp [laws_FnToken.j0])
      | succ kj5 =>
        have H := HA.out
        clear HA
        simp only [laws_FnToken.j0] at H
        by_cases c35 : x64_5 = true
        · subst c35
          have H1 : (if (t332 == t340) = true then ((laws_wnInts.f kj5 t326 t334).bind fun t343 => (if t343 = true then (if t330 = t338 then (some (t331 == t339)) else (some false)) else (some false))) else (some false)) = some r := by rw [if_pos rfl] at H; exact H
          clear H
          have H := H1
          clear H1
          by_cases c36 : (t332 == t340) = true
          · rw [if_pos c36] at H
            have c36b0 : (t332 == t340) = true := c36
            (try (have c36b1 : decide (t332 = t340) = true := by simpa using c36))
            (try (have c36b2 : (t332 == t340) = true := by simpa using c36))
            clear c36
            replace H := Option.bind_eq_some_iff.mp H
            obtain ⟨t343, A370, H⟩ := H
            replace H : (if t343 = true then (if t330 = t338 then (some (t331 == t339)) else (some false)) else (some false)) = some r := H
            have A37 := Aside0.mk A370
            clear A370
            by_cases c38 : t343 = true
            · subst c38
              have H1 : (if t330 = t338 then (some (t331 == t339)) else (some false)) = some r := by rw [if_pos rfl] at H; exact H
              clear H
              have H := H1
              clear H1
              by_cases c39 : t330 = t338
              · rw [if_pos c39] at H
                have c39b0 : (t330 == t338) = true := beq_iff_eq.mpr c39
                have c39b1 : (t330 != t338) = false := bne_eq_false_iff_eq.mpr c39
                clear c39
                obtain rfl := Option.some.inj H
                have hnb40 := NB333_341.out
                have hnc40 := NB341_333.out
                have hcz41_0 : wc.cell? ⟨gb333, 0, none⟩ = some (.slice Ao11 t326.length co11) := (blk_cell BK333.out 0).trans rfl
                have hcz41_1 : wc.cell? ⟨gb333, 1, none⟩ = some (.int .i64 t329) := (blk_cell BK333.out 1).trans rfl
                have hcz41_2 : wc.cell? ⟨gb333, 2, none⟩ = some (.int .i64 t330) := (blk_cell BK333.out 2).trans rfl
                have hcz41_3 : wc.cell? ⟨gb333, 3, none⟩ = some (.bool t331) := (blk_cell BK333.out 3).trans rfl
                have hfz41_0 := blk_frozen BK333.out 0
                have hfz41_1 := blk_frozen BK333.out 1
                have hfz41_2 := blk_frozen BK333.out 2
                have hfz41_3 := blk_frozen BK333.out 3
                have hcz42_0 : wc.cell? ⟨gb341, 0, none⟩ = some (.slice Ao15 t334.length co15) := (blk_cell BK341.out 0).trans rfl
                have hcz42_1 : wc.cell? ⟨gb341, 1, none⟩ = some (.int .i64 t337) := (blk_cell BK341.out 1).trans rfl
                have hcz42_2 : wc.cell? ⟨gb341, 2, none⟩ = some (.int .i64 t338) := (blk_cell BK341.out 2).trans rfl
                have hcz42_3 : wc.cell? ⟨gb341, 3, none⟩ = some (.bool t339) := (blk_cell BK341.out 3).trans rfl
                have hfz42_0 := blk_frozen BK341.out 0
                have hfz42_1 := blk_frozen BK341.out 1
                have hfz42_2 := blk_frozen BK341.out 2
                have hfz42_3 := blk_frozen BK341.out 3
                go_wp2_with (first | (go_at_call 32; (with_reducible refine (laws_wnInts.calls kj5 _ _ t326 _ _ t334 true _ ?side1 ?side2 ?side3 ?side4 A37.out).mono ?_); (case side1 => repeat (first | exact (Kd.R_reads' HO_334000.out).2.2 | (with_reducible refine Kd.C_alloc ?_ _) | (with_reducible refine Kd.C_drewN ?_ _) | (with_reducible refine Kd.C_drew ?_))); (case side2 => exact (Kd.R_reads' HO_334000.out).2.1); (case side3 => repeat (first | exact (Kd.R_reads' HO_342000.out).2.2 | (with_reducible refine Kd.C_alloc ?_ _) | (with_reducible refine Kd.C_drewN ?_ _) | (with_reducible refine Kd.C_drew ?_))); (case side4 => exact (Kd.R_reads' HO_342000.out).2.1); rintro e w' ⟨rfl, ⟨nd, rfl⟩⟩))
                go_ret
                exact ⟨by first | rfl | (simp [errW_none, errW_some] <;> rfl) | (simp [*, errW_none, errW_some] <;> rfl), by repeat (first | (with_reducible first | exact HB.out | apply below_alloc | apply pw_below_drewN | apply below_drew1 | refine below_set ?_ GE333.out | refine below_set ?_ GE341.out) | exact HB.out)⟩
              · rw [if_neg c39] at H
                have c39b0 : (t330 == t338) = false := beq_eq_false_iff_ne.mpr c39
                have c39b1 : (t330 != t338) = true := bne_iff_ne.mpr c39
                obtain rfl := Option.some.inj H
                have hnb43 := NB333_341.out
                have hnc43 := NB341_333.out
                have hcz44_0 : wc.cell? ⟨gb333, 0, none⟩ = some (.slice Ao11 t326.length co11) := (blk_cell BK333.out 0).trans rfl
                have hcz44_1 : wc.cell? ⟨gb333, 1, none⟩ = some (.int .i64 t329) := (blk_cell BK333.out 1).trans rfl
                have hcz44_2 : wc.cell? ⟨gb333, 2, none⟩ = some (.int .i64 t330) := (blk_cell BK333.out 2).trans rfl
                have hcz44_3 : wc.cell? ⟨gb333, 3, none⟩ = some (.bool t331) := (blk_cell BK333.out 3).trans rfl
                have hfz44_0 := blk_frozen BK333.out 0
                have hfz44_1 := blk_frozen BK333.out 1
                have hfz44_2 := blk_frozen BK333.out 2
                have hfz44_3 := blk_frozen BK333.out 3
                have hcz45_0 : wc.cell? ⟨gb341, 0, none⟩ = some (.slice Ao15 t334.length co15) := (blk_cell BK341.out 0).trans rfl
                have hcz45_1 : wc.cell? ⟨gb341, 1, none⟩ = some (.int .i64 t337) := (blk_cell BK341.out 1).trans rfl
                have hcz45_2 : wc.cell? ⟨gb341, 2, none⟩ = some (.int .i64 t338) := (blk_cell BK341.out 2).trans rfl
                have hcz45_3 : wc.cell? ⟨gb341, 3, none⟩ = some (.bool t339) := (blk_cell BK341.out 3).trans rfl
                have hfz45_0 := blk_frozen BK341.out 0
                have hfz45_1 := blk_frozen BK341.out 1
                have hfz45_2 := blk_frozen BK341.out 2
                have hfz45_3 := blk_frozen BK341.out 3
                go_wp2_with (first | (go_at_call 32; (with_reducible refine (laws_wnInts.calls kj5 _ _ t326 _ _ t334 true _ ?side1 ?side2 ?side3 ?side4 A37.out).mono ?_); (case side1 => repeat (first | exact (Kd.R_reads' HO_334000.out).2.2 | (with_reducible refine Kd.C_alloc ?_ _) | (with_reducible refine Kd.C_drewN ?_ _) | (with_reducible refine Kd.C_drew ?_))); (case side2 => exact (Kd.R_reads' HO_334000.out).2.1); (case side3 => repeat (first | exact (Kd.R_reads' HO_342000.out).2.2 | (with_reducible refine Kd.C_alloc ?_ _) | (with_reducible refine Kd.C_drewN ?_ _) | (with_reducible refine Kd.C_drew ?_))); (case side4 => exact (Kd.R_reads' HO_342000.out).2.1); rintro e w' ⟨rfl, ⟨nd, rfl⟩⟩))
                go_ret
                exact ⟨by first | rfl | (simp [errW_none, errW_some] <;> rfl) | (simp [*, errW_none, errW_some] <;> rfl), by repeat (first | (with_reducible first | exact HB.out | apply below_alloc | apply pw_below_drewN | apply below_drew1 | refine below_set ?_ GE333.out | refine below_set ?_ GE341.out) | exact HB.out)⟩
            · replace c38 := Bool.eq_false_iff.mpr c38
              subst c38
              have H1 : (some false) = some r := by rw [if_neg (show ¬ (false = true) by decide)] at H; exact H
              clear H
              have H := H1
              clear H1
              obtain rfl := Option.some.inj H
              have hnb46 := NB333_341.out
              have hnc46 := NB341_333.out
              have hcz47_0 : wc.cell? ⟨gb333, 0, none⟩ = some (.slice Ao11 t326.length co11) := (blk_cell BK333.out 0).trans rfl
              have hcz47_1 : wc.cell? ⟨gb333, 1, none⟩ = some (.int .i64 t329) := (blk_cell BK333.out 1).trans rfl
              have hcz47_2 : wc.cell? ⟨gb333, 2, none⟩ = some (.int .i64 t330) := (blk_cell BK333.out 2).trans rfl
              have hcz47_3 : wc.cell? ⟨gb333, 3, none⟩ = some (.bool t331) := (blk_cell BK333.out 3).trans rfl
              have hfz47_0 := blk_frozen BK333.out 0
              have hfz47_1 := blk_frozen BK333.out 1
              have hfz47_2 := blk_frozen BK333.out 2
              have hfz47_3 := blk_frozen BK333.out 3
              have hcz48_0 : wc.cell? ⟨gb341, 0, none⟩ = some (.slice Ao15 t334.length co15) := (blk_cell BK341.out 0).trans rfl
              have hcz48_1 : wc.cell? ⟨gb341, 1, none⟩ = some (.int .i64 t337) := (blk_cell BK341.out 1).trans rfl
              have hcz48_2 : wc.cell? ⟨gb341, 2, none⟩ = some (.int .i64 t338) := (blk_cell BK341.out 2).trans rfl
              have hcz48_3 : wc.cell? ⟨gb341, 3, none⟩ = some (.bool t339) := (blk_cell BK341.out 3).trans rfl
              have hfz48_0 := blk_frozen BK341.out 0
              have hfz48_1 := blk_frozen BK341.out 1
              have hfz48_2 := blk_frozen BK341.out 2
              have hfz48_3 := blk_frozen BK341.out 3
              go_wp2_with (first | (go_at_call 32; (with_reducible refine (laws_wnInts.calls kj5 _ _ t326 _ _ t334 false _ ?side1 ?side2 ?side3 ?side4 A37.out).mono ?_); (case side1 => repeat (first | exact (Kd.R_reads' HO_334000.out).2.2 | (with_reducible refine Kd.C_alloc ?_ _) | (with_reducible refine Kd.C_drewN ?_ _) | (with_reducible refine Kd.C_drew ?_))); (case side2 => exact (Kd.R_reads' HO_334000.out).2.1); (case side3 => repeat (first | exact (Kd.R_reads' HO_342000.out).2.2 | (with_reducible refine Kd.C_alloc ?_ _) | (with_reducible refine Kd.C_drewN ?_ _) | (with_reducible refine Kd.C_drew ?_))); (case side4 => exact (Kd.R_reads' HO_342000.out).2.1); rintro e w' ⟨rfl, ⟨nd, rfl⟩⟩))
              go_ret
              exact ⟨by first | rfl | (simp [errW_none, errW_some] <;> rfl) | (simp [*, errW_none, errW_some] <;> rfl), by repeat (first | (with_reducible first | exact HB.out | apply below_alloc | apply pw_below_drewN | apply below_drew1 | refine below_set ?_ GE333.out | refine below_set ?_ GE341.out) | exact HB.out)⟩
          · rw [if_neg c36] at H
            have c36b0 : (t332 == t340) = false := by simpa using c36
            (try (have c36b1 : decide (t332 = t340) = false := by simpa using c36))
            (try (have c36b2 : (t332 == t340) = false := by simpa using c36))
            (try (have c36b3 : ¬ (t332 = t340) := by simpa using c36))
            clear c36
            obtain rfl := Option.some.inj H
            go_wp2
            go_ret
            exact ⟨by first | rfl | (simp [errW_none, errW_some] <;> rfl) | (simp [*, errW_none, errW_some] <;> rfl), by repeat (first | (with_reducible first | exact HB.out | apply below_alloc | apply pw_below_drewN | apply below_drew1 | refine below_set ?_ GE333.out | refine below_set ?_ GE341.out) | exact HB.out)⟩
        · replace c35 := Bool.eq_false_iff.mpr c35
          subst c35
          have H1 : (laws_FnToken.l0 kj5 t323 0 t321 (t321.length : Int) 0 t326 t329 t330 t331) = some r := by rw [if_neg (show ¬ (false = true) by decide)] at H; exact H
          clear H
          have H := H1
          clear H1
          have H' := Aside0.mk H
          clear H
          go_wp2
          go_loopg [10, 91] kj5 (fun kq v10 v91 w' => ∃ (x10_2 : Int) (x91_2 : Int), v10 = .int .i64 x10_2 ∧ v91 = .int .i64 x91_2 ∧ Aside0 (laws_FnToken.l0 kq t323 x10_2 t321 (t321.length : Int) x91_2 t326 t329 t330 t331 = some r) ∧ Aside0 (kq ≤ kj5) ∧ Aside0 (Kd.R (Kd.int .i64) 3 w' w.heap.size (fun k_ => some k_ ≠ ((.slice Ao11 t326.length co11) : Value).ownBlock ∧ some k_ ≠ ((.slice Ao15 t334.length co15) : Value).ownBlock) (.slice Ao8 t321.length co8) t321) ∧ Aside0 (Kd.R (Kd.int .i64) 3 w' w.heap.size (fun k_ => some k_ ≠ ((.slice Ao8 t321.length co8) : Value).ownBlock ∧ some k_ ≠ ((.slice Ao15 t334.length co15) : Value).ownBlock) (.slice Ao11 t326.length co11) t326) ∧ Aside0 (Kd.R (Kd.int .i64) 3 w' w.heap.size (fun k_ => some k_ ≠ ((.slice Ao8 t321.length co8) : Value).ownBlock ∧ some k_ ≠ ((.slice Ao11 t326.length co11) : Value).ownBlock) (.slice Ao15 t334.length co15) t334) ∧ Aside0 (w'.heap[gb333]? = some (.cells #[(.slice Ao11 t326.length co11), .int .i64 t329, .int .i64 t330, .bool t331] 38 (0, 0))) ∧ Aside0 (w'.heap[gb341]? = some (.cells #[(.slice Ao15 t334.length co15), .int .i64 t337, .int .i64 t338, .bool t339] 38 (0, 0))) ∧ Aside0 (Below w.heap.size w w'))
          case atStart => exact ⟨(0), (0), (by first | rfl | (simp; done) | (simp [*]; done)), (by first | rfl | (simp; done) | (simp [*]; done)), H', ⟨Nat.le_refl _⟩, ⟨by (with_reducible repeat (first | apply Kd.R_alloc | apply Kd.R_drewN | apply Kd.R_drew)); exact HO_3.out⟩, ⟨by (with_reducible repeat (first | apply Kd.R_alloc | apply Kd.R_drewN | apply Kd.R_drew)); exact HO_334000.out⟩, ⟨by (with_reducible repeat (first | apply Kd.R_alloc | apply Kd.R_drewN | apply Kd.R_drew)); exact HO_342000.out⟩, ⟨by (with_reducible repeat (first | refine blk_drewN ?_ _ | refine blk_drew ?_ | refine blk_alloc ?_ _)); exact BK333.out⟩, ⟨by (with_reducible repeat (first | refine blk_drewN ?_ _ | refine blk_drew ?_ | refine blk_alloc ?_ _)); exact BK341.out⟩, ⟨by repeat (first | (with_reducible first | exact HB.out | apply below_alloc | apply pw_below_drewN | apply below_drew1 | refine below_set ?_ GE333.out | refine below_set ?_ GE341.out) | exact HB.out)⟩⟩
          case round =>
            clear H'
            try clear c1
            try clear c2
            try clear c2b0
            try clear c2b1
            try clear p2
            try clear c3
            try clear c4
            try clear c8
            try clear c16
            try clear c18
            try clear c18b0
            try clear c18b1
            try clear c18b2
            try clear c20
            try clear c21
            try clear c21b0
            try clear c21b1
            try clear c22
            try clear c22b0
            try clear c22b1
            try clear c22b2
            try clear c23
            try clear c26
            try clear c29
            try clear c30
            try clear c31
            try clear c32
            try clear c35
            try clear c36
            try clear c36b0
            try clear c36b1
            try clear c36b2
            try clear c38
            try clear c39
            try clear c39b0
            try clear c39b1
            try clear c40
            try clear c43
            try clear c46
            try clear hcz12_0
            try clear hcz12_1
            try clear hcz12_2
            try clear hcz12_3
            try clear hcz17_0
            try clear hcz17_1
            try clear hcz17_2
            try clear hcz17_3
            try clear hcz24_0
            try clear hcz24_1
            try clear hcz24_2
            try clear hcz24_3
            try clear hcz25_0
            try clear hcz25_1
            try clear hcz25_2
            try clear hcz25_3
            try clear hcz27_0
            try clear hcz27_1
            try clear hcz27_2
            try clear hcz27_3
            try clear hcz28_0
            try clear hcz28_1
            try clear hcz28_2
            try clear hcz28_3
            try clear hcz30_0
            try clear hcz30_1
            try clear hcz30_2
            try clear hcz30_3
            try clear hcz31_0
            try clear hcz31_1
            try clear hcz31_2
            try clear hcz31_3
            try clear hcz33_0
            try clear hcz33_1
            try clear hcz33_2
            try clear hcz33_3
            try clear hcz34_0
            try clear hcz34_1
            try clear hcz34_2
            try clear hcz34_3
            try clear hcz41_0
            try clear hcz41_1
            try clear hcz41_2
            try clear hcz41_3
            try clear hcz42_0
            try clear hcz42_1
            try clear hcz42_2
            try clear hcz42_3
            try clear hcz44_0
            try clear hcz44_1
            try clear hcz44_2
            try clear hcz44_3
            try clear hcz45_0
            try clear hcz45_1
            try clear hcz45_2
            try clear hcz45_3
            try clear hcz47_0
            try clear hcz47_1
            try clear hcz47_2
            try clear hcz47_3
            try clear hcz48_0
            try clear hcz48_1
            try clear hcz48_2
            try clear hcz48_3
            try clear hfz12_0
            try clear hfz12_1
            try clear hfz12_2
            try clear hfz12_3
            try clear hfz17_0
            try clear hfz17_1
            try clear hfz17_2
            try clear hfz17_3
            try clear hfz24_0
            try clear hfz24_1
            try clear hfz24_2
            try clear hfz24_3
            try clear hfz25_0
            try clear hfz25_1
            try clear hfz25_2
            try clear hfz25_3
            try clear hfz27_0
            try clear hfz27_1
            try clear hfz27_2
            try clear hfz27_3
            try clear hfz28_0
            try clear hfz28_1
            try clear hfz28_2
            try clear hfz28_3
            try clear hfz30_0
            try clear hfz30_1
            try clear hfz30_2
            try clear hfz30_3
            try clear hfz31_0
            try clear hfz31_1
            try clear hfz31_2
            try clear hfz31_3
            try clear hfz33_0
            try clear hfz33_1
            try clear hfz33_2
            try clear hfz33_3
            try clear hfz34_0
            try clear hfz34_1
            try clear hfz34_2
            try clear hfz34_3
            try clear hfz41_0
            try clear hfz41_1
            try clear hfz41_2
            try clear hfz41_3
            try clear hfz42_0
            try clear hfz42_1
            try clear hfz42_2
            try clear hfz42_3
            try clear hfz44_0
            try clear hfz44_1
            try clear hfz44_2
            try clear hfz44_3
            try clear hfz45_0
            try clear hfz45_1
            try clear hfz45_2
            try clear hfz45_3
            try clear hfz47_0
            try clear hfz47_1
            try clear hfz47_2
            try clear hfz47_3
            try clear hfz48_0
            try clear hfz48_1
            try clear hfz48_2
            try clear hfz48_3
            try clear p2
            obtain ⟨x10_2, x91_2, rfl, rfl, HA, HK2, HO_89, HO_334000, HO_342000, BK333, BK341, HB⟩ := hrel
            cases gk with
            | zero => exact absurd HA.out (by simp [laws_FnToken.l0])
            | succ k2 =>
              have H := HA.out
              clear HA
              simp only [laws_FnToken.l0] at H
              by_cases c49 : x91_2 < (t321.length : Int)
              · rw [if_pos c49] at H
                have c49b0 : decide (x91_2 < (t321.length : Int)) = true := decide_eq_true c49
                clear c49
                by_cases c50 : 0 ≤ x91_2
                · rw [if_pos c50] at H
                  have c50b0 : decide (0 ≤ x91_2) = true := decide_eq_true c50
                  clear c50
                  by_cases c51 : x91_2 < (t321.length : Int)
                  · rw [if_pos c51] at H
                    have c51b0 : decide (x91_2 < (t321.length : Int)) = true := decide_eq_true c51
                    clear c51
                    have H' := Aside0.mk H
                    clear H
                    have p344 : 0 ≤ (x91_2 : Int) := of_decide_eq_true (by first | (with_reducible assumption) | assumption)
                    have q344 : x91_2 < (t321.length : Int) := of_decide_eq_true (by first | (with_reducible assumption) | assumption)
                    obtain ⟨ad344, e344, hx344_0⟩ := Kd.at_int (Kd.R_reads' HO_89.out).2.2 x91_2 p344 q344
                    cases e344
                    replace p344 := eq_true p344
                    replace q344 := eq_true q344
                    go_wp2
                    go_roundg k2
                    case measure => have := HJ5.out; have := HK2.out; omega
                    case rel => exact ⟨(wrap64 (x10_2 + (rd t321 x91_2))), (wrap64 (x91_2 + 1)), (by first | rfl | (simp; done) | (simp [*]; done)), (by first | rfl | (simp; done) | (simp [*]; done)), H', ⟨by have := HJ5.out; have := HK2.out; omega⟩, ⟨by (with_reducible repeat (first | apply Kd.R_alloc | apply Kd.R_drewN | apply Kd.R_drew)); exact HO_89.out⟩, ⟨by (with_reducible repeat (first | apply Kd.R_alloc | apply Kd.R_drewN | apply Kd.R_drew)); exact HO_334000.out⟩, ⟨by (with_reducible repeat (first | apply Kd.R_alloc | apply Kd.R_drewN | apply Kd.R_drew)); exact HO_342000.out⟩, ⟨by (with_reducible repeat (first | refine blk_drewN ?_ _ | refine blk_drew ?_ | refine blk_alloc ?_ _)); exact BK333.out⟩, ⟨by (with_reducible repeat (first | refine blk_drewN ?_ _ | refine blk_drew ?_ | refine blk_alloc ?_ _)); exact BK341.out⟩, ⟨by repeat (first | (with_reducible first | exact HB.out | apply below_alloc | apply pw_below_drewN | apply below_drew1 | refine below_set ?_ GE333.out | refine below_set ?_ GE341.out) | exact HB.out)⟩⟩
                  · rw [if_neg c51] at H
                    exact absurd H (by simp)
                · rw [if_neg c50] at H
                  exact absurd H (by simp)
              · rw [if_neg c49] at H
                have c49b0 : decide (x91_2 < (t321.length : Int)) = false := decide_eq_false c49
                clear c49
                by_cases c52 : t329 = 0
                · rw [if_pos c52] at H
                  have c52b0 : (t329 == 0) = true := beq_iff_eq.mpr c52
                  have c52b1 : (t329 != 0) = false := bne_eq_false_iff_eq.mpr c52
                  clear c52
                  by_cases c53 : (t326.length : Int) = t330
                  · rw [if_pos c53] at H
                    have c53b0 : ((t326.length : Int) == t330) = true := beq_iff_eq.mpr c53
                    have c53b1 : ((t326.length : Int) != t330) = false := bne_eq_false_iff_eq.mpr c53
                    clear c53
                    obtain ⟨ji54, hji54⟩ : ∃ j_ : Int, (mn x10_2 t323) = j_ := ⟨_, rfl⟩
                    replace H : (if t330 = (ji54) then (some (t331 == (decide (t323 ≥ x10_2)))) else (some false)) = some r := by first | (rw [hji54] at H; exact H) | (simp only [hji54] at H ⊢; exact H)
                    have hji54_ : (if t323 < x10_2 then t323 else x10_2) = ji54 := hji54
                    by_cases c55 : t330 = (ji54)
                    · rw [if_pos c55] at H
                      have c55b0 : (t330 == (ji54)) = true := beq_iff_eq.mpr c55
                      have c55b1 : (t330 != (ji54)) = false := bne_eq_false_iff_eq.mpr c55
                      clear c55
                      obtain rfl := Option.some.inj H
                      have hnb56 := NB333_341.out
                      have hnc56 := NB341_333.out
                      have hcz57_0 : wr.cell? ⟨gb333, 0, none⟩ = some (.slice Ao11 t326.length co11) := (blk_cell BK333.out 0).trans rfl
                      have hcz57_1 : wr.cell? ⟨gb333, 1, none⟩ = some (.int .i64 t329) := (blk_cell BK333.out 1).trans rfl
                      have hcz57_2 : wr.cell? ⟨gb333, 2, none⟩ = some (.int .i64 t330) := (blk_cell BK333.out 2).trans rfl
                      have hcz57_3 : wr.cell? ⟨gb333, 3, none⟩ = some (.bool t331) := (blk_cell BK333.out 3).trans rfl
                      have hfz57_0 := blk_frozen BK333.out 0
                      have hfz57_1 := blk_frozen BK333.out 1
                      have hfz57_2 := blk_frozen BK333.out 2
                      have hfz57_3 := blk_frozen BK333.out 3
                      go_wp2
                      go_ret
                      exact ⟨by first | rfl | (simp [errW_none, errW_some] <;> rfl) | (simp only [← hji54]; first | rfl | (simp [errW_none, errW_some] <;> rfl)) | (simp [*, errW_none, errW_some] <;> rfl), by repeat (first | (with_reducible first | exact HB.out | apply below_alloc | apply pw_below_drewN | apply below_drew1 | refine below_set ?_ GE333.out | refine below_set ?_ GE341.out) | exact HB.out)⟩
                    · rw [if_neg c55] at H
                      have c55b0 : (t330 == (ji54)) = false := beq_eq_false_iff_ne.mpr c55
                      have c55b1 : (t330 != (ji54)) = true := bne_iff_ne.mpr c55
                      obtain rfl := Option.some.inj H
                      have hnb58 := NB333_341.out
                      have hnc58 := NB341_333.out
                      have hcz59_0 : wr.cell? ⟨gb333, 0, none⟩ = some (.slice Ao11 t326.length co11) := (blk_cell BK333.out 0).trans rfl
                      have hcz59_1 : wr.cell? ⟨gb333, 1, none⟩ = some (.int .i64 t329) := (blk_cell BK333.out 1).trans rfl
                      have hcz59_2 : wr.cell? ⟨gb333, 2, none⟩ = some (.int .i64 t330) := (blk_cell BK333.out 2).trans rfl
                      have hcz59_3 : wr.cell? ⟨gb333, 3, none⟩ = some (.bool t331) := (blk_cell BK333.out 3).trans rfl
                      have hfz59_0 := blk_frozen BK333.out 0
                      have hfz59_1 := blk_frozen BK333.out 1
                      have hfz59_2 := blk_frozen BK333.out 2
                      have hfz59_3 := blk_frozen BK333.out 3
                      go_wp2
                      go_ret
                      exact ⟨by first | rfl | (simp [errW_none, errW_some] <;> rfl) | (simp only [← hji54]; first | rfl | (simp [errW_none, errW_some] <;> rfl)) | (simp [*, errW_none, errW_some] <;> rfl), by repeat (first | (with_reducible first | exact HB.out | apply below_alloc | apply pw_below_drewN | apply below_drew1 | refine below_set ?_ GE333.out | refine below_set ?_ GE341.out) | exact HB.out)⟩
                  · rw [if_neg c53] at H
                    have c53b0 : ((t326.length : Int) == t330) = false := beq_eq_false_iff_ne.mpr c53
                    have c53b1 : ((t326.length : Int) != t330) = true := bne_iff_ne.mpr c53
                    obtain rfl := Option.some.inj H
                    have hnb60 := NB333_341.out
                    have hnc60 := NB341_333.out
                    have hcz61_0 : wr.cell? ⟨gb333, 0, none⟩ = some (.slice Ao11 t326.length co11) := (blk_cell BK333.out 0).trans rfl
                    have hcz61_1 : wr.cell? ⟨gb333, 1, none⟩ = some (.int .i64 t329) := (blk_cell BK333.out 1).trans rfl
                    have hcz61_2 : wr.cell? ⟨gb333, 2, none⟩ = some (.int .i64 t330) := (blk_cell BK333.out 2).trans rfl
                    have hcz61_3 : wr.cell? ⟨gb333, 3, none⟩ = some (.bool t331) := (blk_cell BK333.out 3).trans rfl
                    have hfz61_0 := blk_frozen BK333.out 0
                    have hfz61_1 := blk_frozen BK333.out 1
                    have hfz61_2 := blk_frozen BK333.out 2
                    have hfz61_3 := blk_frozen BK333.out 3
                    go_wp2
                    go_ret
                    exact ⟨by first | rfl | (simp [errW_none, errW_some] <;> rfl) | (simp [*, errW_none, errW_some] <;> rfl), by repeat (first | (with_reducible first | exact HB.out | apply below_alloc | apply pw_below_drewN | apply below_drew1 | refine below_set ?_ GE333.out | refine below_set ?_ GE341.out) | exact HB.out)⟩
                · rw [if_neg c52] at H
                  have c52b0 : (t329 == 0) = false := beq_eq_false_iff_ne.mpr c52
                  have c52b1 : (t329 != 0) = true := bne_iff_ne.mpr c52
                  obtain rfl := Option.some.inj H
                  have hnb62 := NB333_341.out
                  have hnc62 := NB341_333.out
                  have hcz63_0 : wr.cell? ⟨gb333, 0, none⟩ = some (.slice Ao11 t326.length co11) := (blk_cell BK333.out 0).trans rfl
                  have hcz63_1 : wr.cell? ⟨gb333, 1, none⟩ = some (.int .i64 t329) := (blk_cell BK333.out 1).trans rfl
                  have hcz63_2 : wr.cell? ⟨gb333, 2, none⟩ = some (.int .i64 t330) := (blk_cell BK333.out 2).trans rfl
                  have hcz63_3 : wr.cell? ⟨gb333, 3, none⟩ = some (.bool t331) := (blk_cell BK333.out 3).trans rfl
                  have hfz63_0 := blk_frozen BK333.out 0
                  have hfz63_1 := blk_frozen BK333.out 1
                  have hfz63_2 := blk_frozen BK333.out 2
                  have hfz63_3 := blk_frozen BK333.out 3
                  go_wp2
                  go_ret
                  exact ⟨by first | rfl | (simp [errW_none, errW_some] <;> rfl) | (simp [*, errW_none, errW_some] <;> rfl), by repeat (first | (with_reducible first | exact HB.out | apply below_alloc | apply pw_below_drewN | apply below_drew1 | refine below_set ?_ GE333.out | refine below_set ?_ GE341.out) | exact HB.out)⟩

/-- THE ONE PURE STATEMENT of laws_FnToken: yours. -/
def laws_FnToken.Pure : Prop := ∀ (l0 : List Int), l0.length ≤ maxLen → l0.length * 1 ≤ 140737488351232 → (∀ x ∈ l0, (Lit.int .u8 x).wf = true) → ∃ k, laws_FnToken.f k l0 = some true
theorem laws_FnToken.walk (P : laws_FnToken.Pure) (a0 : Option Addr) (len0 cap0 : Nat) (z0 : List Int) (w : World) (w0 : (a0 = none ∧ len0 = 0 ∧ cap0 = 0 ∧ z0 = []) ∨ ∃ x, a0 = some x ∧ len0 ≤ cap0 ∧ cap0 ≤ maxLen ∧ z0.length = cap0 ∧ (∀ i, i < z0.length → w.cell? (x.add i) = some (.int .u8 (z0.getD i 0))) ∧ ∀ n ∈ z0, (Lit.int .u8 n).wf = true) (y0 : len0 * 1 ≤ 140737488351232) :
    Calls Try.prog 8 #[.slice a0 len0 cap0] w fun e w' => e = .returned (.bool true) ∧ Below w.heap.size w w' := by
  obtain ⟨l0, rfl, hr0, hm0, hw0, hc0⟩ := ReadsInt.ofRowC w0
  obtain ⟨k, h⟩ := P l0 hm0 y0 hw0
  refine (laws_FnToken.calls k _ _ l0 true w (Kd.C_of_reads (d := (0 : Int)) (h1 := fun _ => rfl) hr0) hc0 h).mono ?_
  rintro e w' ⟨rfl, hd⟩
  exact ⟨rfl, hd⟩

end Go.Proofs.Ytjnopjnickcloaa.PA
