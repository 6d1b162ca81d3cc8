-- Laid by this session's own program (pr.py) over the translation; Lean checks it.
import Derived.Test.YtegnghbgkiddoaaPA0
import Derived.Test.YtegnghbgkiddoaaPA17
import Derived.Test.YtegnghbgkiddoaaPA29
namespace Go.Proofs.Ytegnghbgkiddoaa.PA
open Go.RowKit Go.Proofs.YtegnghbgkiddoaaW.PrintWords Go.Proofs.YtegnghbgkiddoaaW.PrintLast Go.Proofs.YtegnghbgkiddoaaW.PrintMore
attribute [local go_sem] max2_int min2_int max_two min_two max_three min_three max_four min_four   -- for this text's walks alone
set_option linter.unusedVariables false
set_option linter.unusedSimpArgs false

/-! ### laws_FnExactFirstClaims: function 4 -/
def laws_FnExactFirstClaims.f (k : Nat) (a0 : Int) : Option Bool :=
 (spec_FirstClaims.f k a0).bind fun tw =>
 (impl_FirstClaims.f k a0).bind fun tg =>
 (laws_eqIntSS.f k tg tw).bind fun e0 =>
 if e0 = true then
 (laws_markIntSS.f k tg 1).bind fun btm =>
 (laws_heldIntSS.f k btm.2 1).bind fun q0 =>
 if q0 < 0 then none else
 if q0 = btm.1 then
 (impl_FirstClaims.f k a0).bind fun th =>
 (laws_eqIntSS.f k th tw).bind fun e2 =>
 if e2 = true then
 (laws_heldIntSS.f k btm.2 1).bind fun q1 =>
 if q1 < 0 then none else
 if q1 = btm.1 then
 some true else none else none else none else none
theorem laws_FnExactFirstClaims.le_call {n : Nat} {W w' : World} (hb : Below W.heap.size W w') (h : n ≤ W.heap.size) : n ≤ W.heap.size := h
set_option maxHeartbeats 8000000 in
set_option maxRecDepth 100000 in
theorem laws_FnExactFirstClaims.calls (k : Nat) (a0 : Int) (r : Bool) (w : World) (h : laws_FnExactFirstClaims.f k a0 = some r) :
  Calls Try.prog 4 #[.int .i64 a0] w fun e w' => e = .returned (.bool r) ∧ Below w.heap.size w w' := by
 unfold laws_FnExactFirstClaims.f at h
 have HB := Aside0.mk (Below.refl w.heap.size w)
 replace h := Option.bind_eq_some_iff.mp h
 obtain ⟨tw, G0, h⟩ := h
 try dsimp only at h
 replace G0 := Aside0.mk G0
 replace h := Option.bind_eq_some_iff.mp h
 obtain ⟨tg, G1, h⟩ := h
 try dsimp only at h
 replace G1 := Aside0.mk G1
 replace h := Option.bind_eq_some_iff.mp h
 obtain ⟨e0, G2, h⟩ := h
 try dsimp only at h
 replace G2 := Aside0.mk G2
 have ht_e0 : e0 = true := Classical.byContradiction fun hc => by rw [if_neg hc] at h; cases h
 rw [if_pos ht_e0] at h
 subst ht_e0
 replace h := Option.bind_eq_some_iff.mp h
 obtain ⟨⟨m, yg⟩, G3, h⟩ := h
 try dsimp only at h
 replace G3 := Aside0.mk G3
 replace h := Option.bind_eq_some_iff.mp h
 obtain ⟨q0, G4, h⟩ := h
 try dsimp only at h
 replace G4 := Aside0.mk G4
 have hn_q0 : ¬ q0 < 0 := fun hc => by rw [if_pos hc] at h; cases h
 rw [if_neg hn_q0] at h
 have hz_q0 : decide (q0 < 0) = false := decide_eq_false hn_q0
 clear hn_q0
 have he_q0 : q0 = m := Classical.byContradiction fun hc => by rw [if_neg hc] at h; cases h
 rw [if_pos he_q0] at h
 have hq_q0 : (q0 == m) = true := beq_iff_eq.mpr he_q0
 have hr_q0 : (q0 != m) = false := bne_eq_false_iff_eq.mpr he_q0
 clear he_q0
 replace h := Option.bind_eq_some_iff.mp h
 obtain ⟨th, G5, h⟩ := h
 try dsimp only at h
 replace G5 := Aside0.mk G5
 replace h := Option.bind_eq_some_iff.mp h
 obtain ⟨e2, G6, h⟩ := h
 try dsimp only at h
 replace G6 := Aside0.mk G6
 have ht_e2 : e2 = true := Classical.byContradiction fun hc => by rw [if_neg hc] at h; cases h
 rw [if_pos ht_e2] at h
 subst ht_e2
 replace h := Option.bind_eq_some_iff.mp h
 obtain ⟨q1, G7, h⟩ := h
 try dsimp only at h
 replace G7 := Aside0.mk G7
 have hn_q1 : ¬ q1 < 0 := fun hc => by rw [if_pos hc] at h; cases h
 rw [if_neg hn_q1] at h
 have hz_q1 : decide (q1 < 0) = false := decide_eq_false hn_q1
 clear hn_q1
 have he_q1 : q1 = m := Classical.byContradiction fun hc => by rw [if_neg hc] at h; cases h
 rw [if_pos he_q1] at h
 have hq_q1 : (q1 == m) = true := beq_iff_eq.mpr he_q1
 have hr_q1 : (q1 != m) = false := bne_eq_false_iff_eq.mpr he_q1
 clear he_q1
 obtain rfl := Option.some.inj h
 clear h
 go_enter Try.func4, Try.ntmps4
 go_wp2_with fail
 refine (spec_FirstClaims.calls k a0 tw _  G0.out).mono ?_
 rintro e w' ⟨vw, rfl, hS, hb⟩
 obtain ⟨Aw, cw, rfl⟩ := Kd.S_slice hS
 have HL_w := Aside0.mk (Kd.S_reads' hS).2.1
 have HC_w := Aside0.mk (Kd.S_reads' hS).2.2
 have HBn := Aside0.mk (Below.refl _ _ : Below (World.heap w').size w' w')
 clear hS
 have h_ := Aside0.mk (below_step (by repeat (first | (with_reducible first | exact HB.out | apply below_alloc | apply pw_below_drewN | apply below_drew1) | exact HB.out)) hb)
 clear HB
 have HB := h_
 clear h_
 clear hb
 have HB_w := HBn
 clear HBn
 have HXB := HB
 have HXB_w := HB_w
 go_wp2_with fail
 refine (impl_FirstClaims.calls k a0 tg _  G1.out).mono ?_
 rintro e w' ⟨vg, rfl, hS, hb⟩
 obtain ⟨Ag, cg, rfl⟩ := Kd.S_slice hS
 have HL_g := Aside0.mk (Kd.S_reads' hS).2.1
 have HOn := Aside0.mk (Kd.S_mono (Kd.S_bound hS) (fun k_ hk_ => (⟨hk_.2.1, hk_.2.2.1⟩ : _ ≤ k_ ∧ k_ < _)))
 have HZn := Aside0.mk (Nat.le_refl (World.heap w').size)
 have HXn := Aside0.mk hb
 clear hS
 have h_ := Aside0.mk (below_step (by repeat (first | (with_reducible first | exact HB.out | apply below_alloc | apply pw_below_drewN | apply below_drew1) | exact HB.out)) hb)
 clear HB
 have HB := h_
 clear h_
 have h_ := Aside0.mk (below_step (by repeat (first | (with_reducible first | exact HB_w.out | apply below_alloc | apply pw_below_drewN | apply below_drew1) | exact HB_w.out)) hb)
 clear HB_w
 have HB_w := h_
 clear h_
 clear hb
 have HX := HXn
 clear HXn
 have HO_g := HOn
 have HZ_g := HZn
 clear HOn HZn
 go_wp2_with fail
 refine (laws_eqIntSS.calls k Ag cg tg Aw cw tw true _ (Kd.S_reads' (by (with_reducible repeat (first | apply Kd.S_alloc | apply Kd.S_drewN | apply Kd.S_drew)); exact HO_g.out)).2.2 HL_g.out (Kd.C_below HC_w.out (by repeat (first | (with_reducible first | exact HB_w.out | apply below_alloc | apply pw_below_drewN | apply below_drew1) | exact HB_w.out))) HL_w.out G2.out).mono ?_
 rintro e w' ⟨rfl, ⟨ne0, rfl⟩⟩
 go_wp2_with fail
 refine (laws_markIntSS.calls k _ Ag cg tg 1 m yg _ _ (by repeat (first | (with_reducible first | exact HX.out | apply below_alloc | apply pw_below_drewN | apply below_drew1) | exact HX.out)) (by (with_reducible repeat (first | apply Kd.S_alloc | apply Kd.S_drewN | apply Kd.S_drew)); exact HO_g.out) G3.out).mono ?_
 rintro e w' ⟨rfl, hS, hb, hk⟩
 have h_ := Aside0.mk (below_step (by repeat (first | (with_reducible first | exact HXB.out | apply below_alloc | apply pw_below_drewN | apply below_drew1) | exact HXB.out)) hb)
 clear HB
 have HB := h_
 clear h_
 clear HX
 have HX := Aside0.mk hb
 have h_ := Aside0.mk (below_step (by repeat (first | (with_reducible first | exact HXB_w.out | apply below_alloc | apply pw_below_drewN | apply below_drew1) | exact HXB_w.out)) hb)
 clear HB_w
 have HB_w := h_
 clear h_
 have hl := (Kd.S_reads' hS).1
 clear HO_g
 have HO_g := Aside0.mk hS
 have h_ := Aside0.mk (Nat.le_trans HZ_g.out hk.1)
 clear HZ_g
 have HZ_g := h_
 clear h_ hS hb hk
 rw [hl] at HL_g HO_g ⊢
 clear hl
 go_wp2_with fail
 refine (laws_heldIntSS.calls k Ag cg yg 1 q0 _ (Kd.S_reads' (by (with_reducible repeat (first | apply Kd.S_alloc | apply Kd.S_drewN | apply Kd.S_drew)); exact HO_g.out)).2.2 HL_g.out G4.out).mono ?_
 rintro e w' ⟨rfl, ⟨nq0, rfl⟩⟩
 go_wp2_with fail
 refine (impl_FirstClaims.calls k a0 th _  G5.out).mono ?_
 rintro e w' ⟨vh, rfl, hS, hb⟩
 have HD_g_h := Aside0.mk (laws_FnExactFirstClaims.le_call hb HZ_g.out)
 obtain ⟨Ah, ch, rfl⟩ := Kd.S_slice hS
 have HL_h := Aside0.mk (Kd.S_reads' hS).2.1
 have HOn := Aside0.mk (Kd.S_lower (Kd.S_mono (Kd.S_bound hS) (fun k_ hk_ => (⟨hk_.2.1, hk_.2.2.1⟩ : _ ≤ k_ ∧ k_ < _))) (below_size (by repeat (first | (with_reducible first | exact HX.out | apply below_alloc | apply pw_below_drewN | apply below_drew1) | exact HX.out))))
 have HZn := Aside0.mk (Nat.le_refl (World.heap w').size)
 clear hS
 have h_ := Aside0.mk (below_step (by repeat (first | (with_reducible first | exact HB.out | apply below_alloc | apply pw_below_drewN | apply below_drew1) | exact HB.out)) hb)
 clear HB
 have HB := h_
 clear h_
 have h_ := Aside0.mk (below_step (by repeat (first | (with_reducible first | exact HX.out | apply below_alloc | apply pw_below_drewN | apply below_drew1) | exact HX.out)) hb)
 clear HX
 have HX := h_
 clear h_
 have h_ := Aside0.mk (below_step (by repeat (first | (with_reducible first | exact HB_w.out | apply below_alloc | apply pw_below_drewN | apply below_drew1) | exact HB_w.out)) hb)
 clear HB_w
 have HB_w := h_
 clear h_
 have h_ := Aside0.mk (Kd.S_below (by (with_reducible repeat (first | apply Kd.S_alloc | apply Kd.S_drewN | apply Kd.S_drew)); exact HO_g.out) hb)
 clear HO_g
 have HO_g := h_
 clear h_
 have h_ := Aside0.mk (Nat.le_trans HZ_g.out hb.size)
 clear HZ_g
 have HZ_g := h_
 clear h_
 clear hb
 have HO_h := HOn
 have HZ_h := HZn
 clear HOn HZn
 go_wp2_with fail
 refine (laws_eqIntSS.calls k Ah ch th Aw cw tw true _ (Kd.S_reads' (by (with_reducible repeat (first | apply Kd.S_alloc | apply Kd.S_drewN | apply Kd.S_drew)); exact HO_h.out)).2.2 HL_h.out (Kd.C_below HC_w.out (by repeat (first | (with_reducible first | exact HB_w.out | apply below_alloc | apply pw_below_drewN | apply below_drew1) | exact HB_w.out))) HL_w.out G6.out).mono ?_
 rintro e w' ⟨rfl, ⟨ne2, rfl⟩⟩
 go_wp2_with fail
 refine (laws_heldIntSS.calls k Ag cg yg 1 q1 _ (Kd.S_reads' (by (with_reducible repeat (first | apply Kd.S_alloc | apply Kd.S_drewN | apply Kd.S_drew)); exact HO_g.out)).2.2 HL_g.out G7.out).mono ?_
 rintro e w' ⟨rfl, ⟨nq1, rfl⟩⟩
 go_wp2_with fail
 go_ret
 exact ⟨rfl, (by repeat (first | (with_reducible first | exact HB.out | apply below_alloc | apply pw_below_drewN | apply below_drew1) | exact HB.out))⟩

end Go.Proofs.Ytegnghbgkiddoaa.PA
