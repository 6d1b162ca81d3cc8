-- Laid by this session's own program (pr.py) over the translation; Lean checks it.
import Derived.Test.YtegnghbgkiddoaaPA0
import Derived.Test.YtegnghbgkiddoaaPA11
import Derived.Test.YtegnghbgkiddoaaPA25
import Derived.Test.YtegnghbgkiddoaaPA29
import Derived.Test.YtegnghbgkiddoaaPA30
import Derived.Test.YtegnghbgkiddoaaPA32
namespace Go.Proofs.Ytegnghbgkiddoaa.PA
open Go.RowKit Go.Proofs.YtegnghbgkiddoaaW.PrintWords Go.Proofs.YtegnghbgkiddoaaW.PrintLast Go.Proofs.YtegnghbgkiddoaaW.PrintMore
attribute [local go_sem] max2_int min2_int max_two min_two max_three min_three max_four min_four   -- for this text's walks alone
set_option linter.unusedVariables false
set_option linter.unusedSimpArgs false

/-! ### laws_FnExactClaimsAfter: function 14 -/
def laws_FnExactClaimsAfter.f (k : Nat) (a0 : Int) (l1 : List S68) (a2 : Int) : Option Bool :=
 (laws_szCableS.f l1 1048576).bind fun zl1 =>
 if zl1 < 0 then some true else
 (laws_toCableS.f k l1).bind fun tb1 =>
 (spec_ClaimsAfter.f k a0 tb1 a2).bind fun tw =>
 (laws_toCableS.f k l1).bind fun tx1 =>
 (impl_ClaimsAfter.f k a0 tx1 a2).bind fun tg =>
 (laws_eqIntSS.f k tg tw).bind fun e0 =>
 if e0 = true then
 (laws_toCableS.f k l1).bind fun ty1 =>
 (laws_eqCableS.f k tx1 ty1).bind fun ey1 =>
 if ey1 = true then
 (laws_markCableS.f k tx1 1).bind fun btkl1 =>
 if btkl1.1 < 0 then none else
 (laws_eqIntSS.f k tg tw).bind fun e1 =>
 if e1 = true then
 (laws_markIntSS.f k tg 1).bind fun btm =>
 (laws_heldIntSS.f k btm.2 1).bind fun q0 =>
 if q0 < 0 then none else
 if q0 = btm.1 then
 (laws_toCableS.f k l1).bind fun tu1 =>
 (impl_ClaimsAfter.f k a0 tu1 a2).bind fun th =>
 (laws_eqIntSS.f k th tw).bind fun e2 =>
 if e2 = true then
 (laws_heldIntSS.f k btm.2 1).bind fun q1 =>
 if q1 < 0 then none else
 if q1 = btm.1 then
 some true else none else none else none else none else none else none
theorem laws_FnExactClaimsAfter.le_call {n : Nat} {W w' : World} (hb : Below W.heap.size W w') (h : n ≤ W.heap.size) : n ≤ W.heap.size := h
set_option maxHeartbeats 8000000 in
set_option maxRecDepth 100000 in
theorem laws_FnExactClaimsAfter.calls (k : Nat) (a0 : Int) (A1 : Option Addr) (c1 : Nat) (l1 : List S68) (a2 : Int) (r : Bool) (w : World) (hr1 : Kd.C k68 w A1 l1.length l1) (hc1 : l1.length ≤ c1) (h : laws_FnExactClaimsAfter.f k a0 l1 a2 = some r) :
  Calls Try.prog 14 #[.int .i64 a0, .slice A1 l1.length c1, .int .i64 a2] w fun e w' => e = .returned (.bool r) ∧ Below w.heap.size w w' := by
 unfold laws_FnExactClaimsAfter.f at h
 have HC_l1 := Aside0.mk hr1
 have HL_l1 := Aside0.mk hc1
 clear hr1 hc1
 have HB := Aside0.mk (Below.refl w.heap.size w)
 replace h := Option.bind_eq_some_iff.mp h
 obtain ⟨zl1, G0, h⟩ := h
 try dsimp only at h
 replace G0 := Aside0.mk G0
 by_cases czl1 : zl1 < 0
 ·rw [if_pos czl1] at h
  obtain rfl := Option.some.inj h
  clear h
  have czl10 : decide (zl1 < 0) = true := decide_eq_true czl1
  go_enter Try.func14, Try.ntmps14
  go_wp2_with fail
  refine (laws_szCableS.calls A1 c1 l1 1048576 zl1 _ (Kd.C_below HC_l1.out (by repeat (first | (with_reducible first | exact HB.out | apply below_alloc | apply pw_below_drewN | apply below_drew1) | exact HB.out))) HL_l1.out G0.out).mono ?_
  rintro e w' ⟨rfl, ⟨nzl1, rfl⟩⟩
  go_wp2_with fail
  go_ret
  exact ⟨rfl, (by repeat (first | (with_reducible first | exact HB.out | apply below_alloc | apply pw_below_drewN | apply below_drew1) | exact HB.out))⟩
 rw [if_neg czl1] at h
 have czl10 : decide (zl1 < 0) = false := decide_eq_false czl1
 clear czl1
 replace h := Option.bind_eq_some_iff.mp h
 obtain ⟨tb1, G1, h⟩ := h
 try dsimp only at h
 replace G1 := Aside0.mk G1
 replace h := Option.bind_eq_some_iff.mp h
 obtain ⟨tw, G2, h⟩ := h
 try dsimp only at h
 replace G2 := Aside0.mk G2
 replace h := Option.bind_eq_some_iff.mp h
 obtain ⟨tx1, G3, h⟩ := h
 try dsimp only at h
 replace G3 := Aside0.mk G3
 replace h := Option.bind_eq_some_iff.mp h
 obtain ⟨tg, G4, h⟩ := h
 try dsimp only at h
 replace G4 := Aside0.mk G4
 replace h := Option.bind_eq_some_iff.mp h
 obtain ⟨e0, G5, h⟩ := h
 try dsimp only at h
 replace G5 := Aside0.mk G5
 have ht_e0 : e0 = true := Classical.byContradiction fun hc => by rw [if_neg hc] at h; cases h
 rw [if_pos ht_e0] at h
 subst ht_e0
 replace h := Option.bind_eq_some_iff.mp h
 obtain ⟨ty1, G6, h⟩ := h
 try dsimp only at h
 replace G6 := Aside0.mk G6
 replace h := Option.bind_eq_some_iff.mp h
 obtain ⟨ey1, G7, h⟩ := h
 try dsimp only at h
 replace G7 := Aside0.mk G7
 have ht_ey1 : ey1 = true := Classical.byContradiction fun hc => by rw [if_neg hc] at h; cases h
 rw [if_pos ht_ey1] at h
 subst ht_ey1
 replace h := Option.bind_eq_some_iff.mp h
 obtain ⟨⟨kl1, yx1⟩, G8, h⟩ := h
 try dsimp only at h
 replace G8 := Aside0.mk G8
 have hn_kl1 : ¬ kl1 < 0 := fun hc => by rw [if_pos hc] at h; cases h
 rw [if_neg hn_kl1] at h
 have hz_kl1 : decide (kl1 < 0) = false := decide_eq_false hn_kl1
 clear hn_kl1
 replace h := Option.bind_eq_some_iff.mp h
 obtain ⟨e1, G9, h⟩ := h
 try dsimp only at h
 replace G9 := Aside0.mk G9
 have ht_e1 : e1 = true := Classical.byContradiction fun hc => by rw [if_neg hc] at h; cases h
 rw [if_pos ht_e1] at h
 subst ht_e1
 replace h := Option.bind_eq_some_iff.mp h
 obtain ⟨⟨m, yg⟩, G10, h⟩ := h
 try dsimp only at h
 replace G10 := Aside0.mk G10
 replace h := Option.bind_eq_some_iff.mp h
 obtain ⟨q0, G11, h⟩ := h
 try dsimp only at h
 replace G11 := Aside0.mk G11
 have hn_q0 : ¬ q0 < 0 := fun hc => by rw [if_pos hc] at h; cases h
 rw [if_neg hn_q0] at h
 have hz_q0 : decide (q0 < 0) = false := decide_eq_false hn_q0
 clear hn_q0
 have he_q0 : q0 = m := Classical.byContradiction fun hc => by rw [if_neg hc] at h; cases h
 rw [if_pos he_q0] at h
 have hq_q0 : (q0 == m) = true := beq_iff_eq.mpr he_q0
 have hr_q0 : (q0 != m) = false := bne_eq_false_iff_eq.mpr he_q0
 clear he_q0
 replace h := Option.bind_eq_some_iff.mp h
 obtain ⟨tu1, G12, h⟩ := h
 try dsimp only at h
 replace G12 := Aside0.mk G12
 replace h := Option.bind_eq_some_iff.mp h
 obtain ⟨th, G13, h⟩ := h
 try dsimp only at h
 replace G13 := Aside0.mk G13
 replace h := Option.bind_eq_some_iff.mp h
 obtain ⟨e2, G14, h⟩ := h
 try dsimp only at h
 replace G14 := Aside0.mk G14
 have ht_e2 : e2 = true := Classical.byContradiction fun hc => by rw [if_neg hc] at h; cases h
 rw [if_pos ht_e2] at h
 subst ht_e2
 replace h := Option.bind_eq_some_iff.mp h
 obtain ⟨q1, G15, h⟩ := h
 try dsimp only at h
 replace G15 := Aside0.mk G15
 have hn_q1 : ¬ q1 < 0 := fun hc => by rw [if_pos hc] at h; cases h
 rw [if_neg hn_q1] at h
 have hz_q1 : decide (q1 < 0) = false := decide_eq_false hn_q1
 clear hn_q1
 have he_q1 : q1 = m := Classical.byContradiction fun hc => by rw [if_neg hc] at h; cases h
 rw [if_pos he_q1] at h
 have hq_q1 : (q1 == m) = true := beq_iff_eq.mpr he_q1
 have hr_q1 : (q1 != m) = false := bne_eq_false_iff_eq.mpr he_q1
 clear he_q1
 obtain rfl := Option.some.inj h
 clear h
 go_enter Try.func14, Try.ntmps14
 go_wp2_with fail
 refine (laws_szCableS.calls A1 c1 l1 1048576 zl1 _ (Kd.C_below HC_l1.out (by repeat (first | (with_reducible first | exact HB.out | apply below_alloc | apply pw_below_drewN | apply below_drew1) | exact HB.out))) HL_l1.out G0.out).mono ?_
 rintro e w' ⟨rfl, ⟨nzl1, rfl⟩⟩
 go_wp2_with fail
 refine (laws_toCableS.calls k A1 c1 l1 tb1 _ (Kd.C_below HC_l1.out (by repeat (first | (with_reducible first | exact HB.out | apply below_alloc | apply pw_below_drewN | apply below_drew1) | exact HB.out))) HL_l1.out G1.out).mono ?_
 rintro e w' ⟨vb1, rfl, hS, hb⟩
 obtain ⟨Ab1, cb1, rfl⟩ := Kd.R_slice hS
 have HL_b1 := Aside0.mk (Kd.R_reads' hS).2.1
 have HC_b1 := Aside0.mk (Kd.R_reads' hS).2.2
 have HBn := Aside0.mk (Below.refl _ _ : Below (World.heap w').size w' w')
 clear hS
 have h_ := Aside0.mk (below_step (by repeat (first | (with_reducible first | exact HB.out | apply below_alloc | apply pw_below_drewN | apply below_drew1) | exact HB.out)) hb)
 clear HB
 have HB := h_
 clear h_
 clear hb
 have HB_b1 := HBn
 clear HBn
 go_wp2_with fail
 refine (spec_ClaimsAfter.calls k a0 Ab1 cb1 tb1 a2 tw _ (Kd.C_below HC_b1.out (by repeat (first | (with_reducible first | exact HB_b1.out | apply below_alloc | apply pw_below_drewN | apply below_drew1) | exact HB_b1.out))) HL_b1.out G2.out).mono ?_
 rintro e w' ⟨vw, rfl, hS, hb⟩
 obtain ⟨Aw, cw, rfl⟩ := Kd.S_slice hS
 have HL_w := Aside0.mk (Kd.S_reads' hS).2.1
 have HC_w := Aside0.mk (Kd.S_reads' hS).2.2
 have HBn := Aside0.mk (Below.refl _ _ : Below (World.heap w').size w' w')
 clear hS
 have h_ := Aside0.mk (below_step (by repeat (first | (with_reducible first | exact HB.out | apply below_alloc | apply pw_below_drewN | apply below_drew1) | exact HB.out)) hb)
 clear HB
 have HB := h_
 clear h_
 have h_ := Aside0.mk (below_step (by repeat (first | (with_reducible first | exact HB_b1.out | apply below_alloc | apply pw_below_drewN | apply below_drew1) | exact HB_b1.out)) hb)
 clear HB_b1
 have HB_b1 := h_
 clear h_
 clear hb
 have HB_w := HBn
 clear HBn
 clear HB_b1 HC_b1 HL_b1
 have HXB := HB
 have HXB_w := HB_w
 go_wp2_with fail
 refine (laws_toCableS.calls k A1 c1 l1 tx1 _ (Kd.C_below HC_l1.out (by repeat (first | (with_reducible first | exact HB.out | apply below_alloc | apply pw_below_drewN | apply below_drew1) | exact HB.out))) HL_l1.out G3.out).mono ?_
 rintro e w' ⟨vx1, rfl, hS, hb⟩
 obtain ⟨Ax1, cx1, rfl⟩ := Kd.R_slice hS
 have HL_x1 := Aside0.mk (Kd.R_reads' hS).2.1
 have HOn := Aside0.mk (Kd.R_mono (Kd.R_bound hS) (fun k_ hk_ => (⟨hk_.2.1, hk_.2.2.1⟩ : _ ≤ k_ ∧ k_ < _)))
 have HZn := Aside0.mk (Nat.le_refl (World.heap w').size)
 have HXn := Aside0.mk hb
 clear hS
 have h_ := Aside0.mk (below_step (by repeat (first | (with_reducible first | exact HB.out | apply below_alloc | apply pw_below_drewN | apply below_drew1) | exact HB.out)) hb)
 clear HB
 have HB := h_
 clear h_
 have h_ := Aside0.mk (below_step (by repeat (first | (with_reducible first | exact HB_w.out | apply below_alloc | apply pw_below_drewN | apply below_drew1) | exact HB_w.out)) hb)
 clear HB_w
 have HB_w := h_
 clear h_
 clear hb
 have HX := HXn
 clear HXn
 have HO_x1 := HOn
 have HZ_x1 := HZn
 clear HOn HZn
 go_wp2_with fail
 refine (impl_ClaimsAfter.calls k a0 Ax1 cx1 tx1 a2 tg _ (Kd.R_reads' (by (with_reducible repeat (first | apply Kd.R_alloc | apply Kd.R_drewN | apply Kd.R_drew)); exact HO_x1.out)).2.2 HL_x1.out G4.out).mono ?_
 rintro e w' ⟨vg, rfl, hS, hb⟩
 have HD_x1_g := Aside0.mk (laws_FnExactClaimsAfter.le_call hb HZ_x1.out)
 obtain ⟨Ag, cg, rfl⟩ := Kd.S_slice hS
 have HL_g := Aside0.mk (Kd.S_reads' hS).2.1
 have HOn := Aside0.mk (Kd.S_lower (Kd.S_mono (Kd.S_bound hS) (fun k_ hk_ => (⟨hk_.2.1, hk_.2.2.1⟩ : _ ≤ k_ ∧ k_ < _))) (below_size (by repeat (first | (with_reducible first | exact HX.out | apply below_alloc | apply pw_below_drewN | apply below_drew1) | exact HX.out))))
 have HZn := Aside0.mk (Nat.le_refl (World.heap w').size)
 clear hS
 have h_ := Aside0.mk (below_step (by repeat (first | (with_reducible first | exact HB.out | apply below_alloc | apply pw_below_drewN | apply below_drew1) | exact HB.out)) hb)
 clear HB
 have HB := h_
 clear h_
 have h_ := Aside0.mk (below_step (by repeat (first | (with_reducible first | exact HX.out | apply below_alloc | apply pw_below_drewN | apply below_drew1) | exact HX.out)) hb)
 clear HX
 have HX := h_
 clear h_
 have h_ := Aside0.mk (below_step (by repeat (first | (with_reducible first | exact HB_w.out | apply below_alloc | apply pw_below_drewN | apply below_drew1) | exact HB_w.out)) hb)
 clear HB_w
 have HB_w := h_
 clear h_
 have h_ := Aside0.mk (Kd.R_below (by (with_reducible repeat (first | apply Kd.R_alloc | apply Kd.R_drewN | apply Kd.R_drew)); exact HO_x1.out) hb)
 clear HO_x1
 have HO_x1 := h_
 clear h_
 have h_ := Aside0.mk (Nat.le_trans HZ_x1.out hb.size)
 clear HZ_x1
 have HZ_x1 := h_
 clear h_
 clear hb
 have HO_g := HOn
 have HZ_g := HZn
 clear HOn HZn
 go_wp2_with fail
 refine (laws_eqIntSS.calls k Ag cg tg Aw cw tw true _ (Kd.S_reads' (by (with_reducible repeat (first | apply Kd.S_alloc | apply Kd.S_drewN | apply Kd.S_drew)); exact HO_g.out)).2.2 HL_g.out (Kd.C_below HC_w.out (by repeat (first | (with_reducible first | exact HB_w.out | apply below_alloc | apply pw_below_drewN | apply below_drew1) | exact HB_w.out))) HL_w.out G5.out).mono ?_
 rintro e w' ⟨rfl, ⟨ne0, rfl⟩⟩
 go_wp2_with fail
 refine (laws_toCableS.calls k A1 c1 l1 ty1 _ (Kd.C_below HC_l1.out (by repeat (first | (with_reducible first | exact HB.out | apply below_alloc | apply pw_below_drewN | apply below_drew1) | exact HB.out))) HL_l1.out G6.out).mono ?_
 rintro e w' ⟨vy1, rfl, hS, hb⟩
 have HD_x1_y1 := Aside0.mk (laws_FnExactClaimsAfter.le_call hb HZ_x1.out)
 have HD_g_y1 := Aside0.mk (laws_FnExactClaimsAfter.le_call hb HZ_g.out)
 obtain ⟨Ay1, cy1, rfl⟩ := Kd.R_slice hS
 have HL_y1 := Aside0.mk (Kd.R_reads' hS).2.1
 have HOn := Aside0.mk (Kd.R_lower (Kd.R_mono (Kd.R_bound hS) (fun k_ hk_ => (⟨hk_.2.1, hk_.2.2.1⟩ : _ ≤ k_ ∧ k_ < _))) (below_size (by repeat (first | (with_reducible first | exact HX.out | apply below_alloc | apply pw_below_drewN | apply below_drew1) | exact HX.out))))
 have HZn := Aside0.mk (Nat.le_refl (World.heap w').size)
 clear hS
 have h_ := Aside0.mk (below_step (by repeat (first | (with_reducible first | exact HB.out | apply below_alloc | apply pw_below_drewN | apply below_drew1) | exact HB.out)) hb)
 clear HB
 have HB := h_
 clear h_
 have h_ := Aside0.mk (below_step (by repeat (first | (with_reducible first | exact HX.out | apply below_alloc | apply pw_below_drewN | apply below_drew1) | exact HX.out)) hb)
 clear HX
 have HX := h_
 clear h_
 have h_ := Aside0.mk (below_step (by repeat (first | (with_reducible first | exact HB_w.out | apply below_alloc | apply pw_below_drewN | apply below_drew1) | exact HB_w.out)) hb)
 clear HB_w
 have HB_w := h_
 clear h_
 have h_ := Aside0.mk (Kd.R_below (by (with_reducible repeat (first | apply Kd.R_alloc | apply Kd.R_drewN | apply Kd.R_drew)); exact HO_x1.out) hb)
 clear HO_x1
 have HO_x1 := h_
 clear h_
 have h_ := Aside0.mk (Nat.le_trans HZ_x1.out hb.size)
 clear HZ_x1
 have HZ_x1 := h_
 clear h_
 have h_ := Aside0.mk (Kd.S_below (by (with_reducible repeat (first | apply Kd.S_alloc | apply Kd.S_drewN | apply Kd.S_drew)); exact HO_g.out) hb)
 clear HO_g
 have HO_g := h_
 clear h_
 have h_ := Aside0.mk (Nat.le_trans HZ_g.out hb.size)
 clear HZ_g
 have HZ_g := h_
 clear h_
 clear hb
 have HO_y1 := HOn
 have HZ_y1 := HZn
 clear HOn HZn
 go_wp2_with fail
 refine (laws_eqCableS.calls k Ax1 cx1 tx1 Ay1 cy1 ty1 true _ (Kd.R_reads' (by (with_reducible repeat (first | apply Kd.R_alloc | apply Kd.R_drewN | apply Kd.R_drew)); exact HO_x1.out)).2.2 HL_x1.out (Kd.R_reads' (by (with_reducible repeat (first | apply Kd.R_alloc | apply Kd.R_drewN | apply Kd.R_drew)); exact HO_y1.out)).2.2 HL_y1.out G7.out).mono ?_
 rintro e w' ⟨rfl, hb⟩
 have h_ := Aside0.mk (below_step (by repeat (first | (with_reducible first | exact HB.out | apply below_alloc | apply pw_below_drewN | apply below_drew1) | exact HB.out)) hb)
 clear HB
 have HB := h_
 clear h_
 have h_ := Aside0.mk (below_step (by repeat (first | (with_reducible first | exact HX.out | apply below_alloc | apply pw_below_drewN | apply below_drew1) | exact HX.out)) hb)
 clear HX
 have HX := h_
 clear h_
 have h_ := Aside0.mk (below_step (by repeat (first | (with_reducible first | exact HB_w.out | apply below_alloc | apply pw_below_drewN | apply below_drew1) | exact HB_w.out)) hb)
 clear HB_w
 have HB_w := h_
 clear h_
 have h_ := Aside0.mk (Kd.R_below (by (with_reducible repeat (first | apply Kd.R_alloc | apply Kd.R_drewN | apply Kd.R_drew)); exact HO_x1.out) hb)
 clear HO_x1
 have HO_x1 := h_
 clear h_
 have h_ := Aside0.mk (Nat.le_trans HZ_x1.out hb.size)
 clear HZ_x1
 have HZ_x1 := h_
 clear h_
 have h_ := Aside0.mk (Kd.S_below (by (with_reducible repeat (first | apply Kd.S_alloc | apply Kd.S_drewN | apply Kd.S_drew)); exact HO_g.out) hb)
 clear HO_g
 have HO_g := h_
 clear h_
 have h_ := Aside0.mk (Nat.le_trans HZ_g.out hb.size)
 clear HZ_g
 have HZ_g := h_
 clear h_
 have h_ := Aside0.mk (Kd.R_below (by (with_reducible repeat (first | apply Kd.R_alloc | apply Kd.R_drewN | apply Kd.R_drew)); exact HO_y1.out) hb)
 clear HO_y1
 have HO_y1 := h_
 clear h_
 have h_ := Aside0.mk (Nat.le_trans HZ_y1.out hb.size)
 clear HZ_y1
 have HZ_y1 := h_
 clear h_
 clear hb
 clear HO_y1 HZ_y1 HL_y1
 go_wp2_with fail
 refine (laws_markCableS.calls k _ (.slice Ax1 tx1.length cx1) tx1 1 kl1 yx1 _ _ (by repeat (first | (with_reducible first | exact HX.out | apply below_alloc | apply pw_below_drewN | apply below_drew1) | exact HX.out)) (by (with_reducible repeat (first | apply Kd.R_alloc | apply Kd.R_drewN | apply Kd.R_drew)); exact HO_x1.out) G8.out).mono ?_
 rintro e w' ⟨rfl, hS, hb, hk⟩
 have h_ := Aside0.mk (Kd.S_step (by (with_reducible repeat (first | apply Kd.S_alloc | apply Kd.S_drewN | apply Kd.S_drew)); exact HO_g.out) (fun k_ hk_ hlt_ => hk.2 k_ hlt_ (fun hp_ => by have := HD_x1_g.out; have := hp_.2; have := hk_.1; omega)))
 clear HO_g
 have HO_g := h_
 clear h_
 have h_ := Aside0.mk (Nat.le_trans HZ_g.out hk.1)
 clear HZ_g
 have HZ_g := h_
 clear h_
 have h_ := Aside0.mk (below_step (by repeat (first | (with_reducible first | exact HXB.out | apply below_alloc | apply pw_below_drewN | apply below_drew1) | exact HXB.out)) hb)
 clear HB
 have HB := h_
 clear h_
 clear HX
 have HX := Aside0.mk hb
 have h_ := Aside0.mk (below_step (by repeat (first | (with_reducible first | exact HXB_w.out | apply below_alloc | apply pw_below_drewN | apply below_drew1) | exact HXB_w.out)) hb)
 clear HB_w
 have HB_w := h_
 clear h_
 clear hS hb hk HO_x1 HZ_x1 HL_x1
 go_wp2_with fail
 refine (laws_eqIntSS.calls k Ag cg tg Aw cw tw true _ (Kd.S_reads' (by (with_reducible repeat (first | apply Kd.S_alloc | apply Kd.S_drewN | apply Kd.S_drew)); exact HO_g.out)).2.2 HL_g.out (Kd.C_below HC_w.out (by repeat (first | (with_reducible first | exact HB_w.out | apply below_alloc | apply pw_below_drewN | apply below_drew1) | exact HB_w.out))) HL_w.out G9.out).mono ?_
 rintro e w' ⟨rfl, ⟨ne1, rfl⟩⟩
 go_wp2_with fail
 refine (laws_markIntSS.calls k _ Ag cg tg 1 m yg _ _ (by repeat (first | (with_reducible first | exact HX.out | apply below_alloc | apply pw_below_drewN | apply below_drew1) | exact HX.out)) (by (with_reducible repeat (first | apply Kd.S_alloc | apply Kd.S_drewN | apply Kd.S_drew)); exact HO_g.out) G10.out).mono ?_
 rintro e w' ⟨rfl, hS, hb, hk⟩
 have h_ := Aside0.mk (below_step (by repeat (first | (with_reducible first | exact HXB.out | apply below_alloc | apply pw_below_drewN | apply below_drew1) | exact HXB.out)) hb)
 clear HB
 have HB := h_
 clear h_
 clear HX
 have HX := Aside0.mk hb
 have h_ := Aside0.mk (below_step (by repeat (first | (with_reducible first | exact HXB_w.out | apply below_alloc | apply pw_below_drewN | apply below_drew1) | exact HXB_w.out)) hb)
 clear HB_w
 have HB_w := h_
 clear h_
 have hl := (Kd.S_reads' hS).1
 clear HO_g
 have HO_g := Aside0.mk hS
 have h_ := Aside0.mk (Nat.le_trans HZ_g.out hk.1)
 clear HZ_g
 have HZ_g := h_
 clear h_ hS hb hk
 rw [hl] at HL_g HO_g ⊢
 clear hl
 go_wp2_with fail
 refine (laws_heldIntSS.calls k Ag cg yg 1 q0 _ (Kd.S_reads' (by (with_reducible repeat (first | apply Kd.S_alloc | apply Kd.S_drewN | apply Kd.S_drew)); exact HO_g.out)).2.2 HL_g.out G11.out).mono ?_
 rintro e w' ⟨rfl, ⟨nq0, rfl⟩⟩
 go_wp2_with fail
 refine (laws_toCableS.calls k A1 c1 l1 tu1 _ (Kd.C_below HC_l1.out (by repeat (first | (with_reducible first | exact HB.out | apply below_alloc | apply pw_below_drewN | apply below_drew1) | exact HB.out))) HL_l1.out G12.out).mono ?_
 rintro e w' ⟨vu1, rfl, hS, hb⟩
 have HD_g_u1 := Aside0.mk (laws_FnExactClaimsAfter.le_call hb HZ_g.out)
 obtain ⟨Au1, cu1, rfl⟩ := Kd.R_slice hS
 have HL_u1 := Aside0.mk (Kd.R_reads' hS).2.1
 have HOn := Aside0.mk (Kd.R_lower (Kd.R_mono (Kd.R_bound hS) (fun k_ hk_ => (⟨hk_.2.1, hk_.2.2.1⟩ : _ ≤ k_ ∧ k_ < _))) (below_size (by repeat (first | (with_reducible first | exact HX.out | apply below_alloc | apply pw_below_drewN | apply below_drew1) | exact HX.out))))
 have HZn := Aside0.mk (Nat.le_refl (World.heap w').size)
 clear hS
 have h_ := Aside0.mk (below_step (by repeat (first | (with_reducible first | exact HB.out | apply below_alloc | apply pw_below_drewN | apply below_drew1) | exact HB.out)) hb)
 clear HB
 have HB := h_
 clear h_
 have h_ := Aside0.mk (below_step (by repeat (first | (with_reducible first | exact HX.out | apply below_alloc | apply pw_below_drewN | apply below_drew1) | exact HX.out)) hb)
 clear HX
 have HX := h_
 clear h_
 have h_ := Aside0.mk (below_step (by repeat (first | (with_reducible first | exact HB_w.out | apply below_alloc | apply pw_below_drewN | apply below_drew1) | exact HB_w.out)) hb)
 clear HB_w
 have HB_w := h_
 clear h_
 have h_ := Aside0.mk (Kd.S_below (by (with_reducible repeat (first | apply Kd.S_alloc | apply Kd.S_drewN | apply Kd.S_drew)); exact HO_g.out) hb)
 clear HO_g
 have HO_g := h_
 clear h_
 have h_ := Aside0.mk (Nat.le_trans HZ_g.out hb.size)
 clear HZ_g
 have HZ_g := h_
 clear h_
 clear hb
 have HO_u1 := HOn
 have HZ_u1 := HZn
 clear HOn HZn
 go_wp2_with fail
 refine (impl_ClaimsAfter.calls k a0 Au1 cu1 tu1 a2 th _ (Kd.R_reads' (by (with_reducible repeat (first | apply Kd.R_alloc | apply Kd.R_drewN | apply Kd.R_drew)); exact HO_u1.out)).2.2 HL_u1.out G13.out).mono ?_
 rintro e w' ⟨vh, rfl, hS, hb⟩
 have HD_g_h := Aside0.mk (laws_FnExactClaimsAfter.le_call hb HZ_g.out)
 have HD_u1_h := Aside0.mk (laws_FnExactClaimsAfter.le_call hb HZ_u1.out)
 obtain ⟨Ah, ch, rfl⟩ := Kd.S_slice hS
 have HL_h := Aside0.mk (Kd.S_reads' hS).2.1
 have HOn := Aside0.mk (Kd.S_lower (Kd.S_mono (Kd.S_bound hS) (fun k_ hk_ => (⟨hk_.2.1, hk_.2.2.1⟩ : _ ≤ k_ ∧ k_ < _))) (below_size (by repeat (first | (with_reducible first | exact HX.out | apply below_alloc | apply pw_below_drewN | apply below_drew1) | exact HX.out))))
 have HZn := Aside0.mk (Nat.le_refl (World.heap w').size)
 clear hS
 have h_ := Aside0.mk (below_step (by repeat (first | (with_reducible first | exact HB.out | apply below_alloc | apply pw_below_drewN | apply below_drew1) | exact HB.out)) hb)
 clear HB
 have HB := h_
 clear h_
 have h_ := Aside0.mk (below_step (by repeat (first | (with_reducible first | exact HX.out | apply below_alloc | apply pw_below_drewN | apply below_drew1) | exact HX.out)) hb)
 clear HX
 have HX := h_
 clear h_
 have h_ := Aside0.mk (below_step (by repeat (first | (with_reducible first | exact HB_w.out | apply below_alloc | apply pw_below_drewN | apply below_drew1) | exact HB_w.out)) hb)
 clear HB_w
 have HB_w := h_
 clear h_
 have h_ := Aside0.mk (Kd.S_below (by (with_reducible repeat (first | apply Kd.S_alloc | apply Kd.S_drewN | apply Kd.S_drew)); exact HO_g.out) hb)
 clear HO_g
 have HO_g := h_
 clear h_
 have h_ := Aside0.mk (Nat.le_trans HZ_g.out hb.size)
 clear HZ_g
 have HZ_g := h_
 clear h_
 have h_ := Aside0.mk (Kd.R_below (by (with_reducible repeat (first | apply Kd.R_alloc | apply Kd.R_drewN | apply Kd.R_drew)); exact HO_u1.out) hb)
 clear HO_u1
 have HO_u1 := h_
 clear h_
 have h_ := Aside0.mk (Nat.le_trans HZ_u1.out hb.size)
 clear HZ_u1
 have HZ_u1 := h_
 clear h_
 clear hb
 have HO_h := HOn
 have HZ_h := HZn
 clear HOn HZn
 go_wp2_with fail
 refine (laws_eqIntSS.calls k Ah ch th Aw cw tw true _ (Kd.S_reads' (by (with_reducible repeat (first | apply Kd.S_alloc | apply Kd.S_drewN | apply Kd.S_drew)); exact HO_h.out)).2.2 HL_h.out (Kd.C_below HC_w.out (by repeat (first | (with_reducible first | exact HB_w.out | apply below_alloc | apply pw_below_drewN | apply below_drew1) | exact HB_w.out))) HL_w.out G14.out).mono ?_
 rintro e w' ⟨rfl, ⟨ne2, rfl⟩⟩
 go_wp2_with fail
 refine (laws_heldIntSS.calls k Ag cg yg 1 q1 _ (Kd.S_reads' (by (with_reducible repeat (first | apply Kd.S_alloc | apply Kd.S_drewN | apply Kd.S_drew)); exact HO_g.out)).2.2 HL_g.out G15.out).mono ?_
 rintro e w' ⟨rfl, ⟨nq1, rfl⟩⟩
 go_wp2_with fail
 go_ret
 exact ⟨rfl, (by repeat (first | (with_reducible first | exact HB.out | apply below_alloc | apply pw_below_drewN | apply below_drew1) | exact HB.out))⟩

end Go.Proofs.Ytegnghbgkiddoaa.PA
