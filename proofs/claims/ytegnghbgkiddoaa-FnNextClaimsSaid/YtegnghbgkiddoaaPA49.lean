-- Laid by this session's own program (pr.py) over the translation; Lean checks it.
import Derived.Test.YtegnghbgkiddoaaPA0
import Derived.Test.YtegnghbgkiddoaaPA10
import Derived.Test.YtegnghbgkiddoaaPA30
import Derived.Test.YtegnghbgkiddoaaHSq
import Derived.Test.YtegnghbgkiddoaaWRepsOne
namespace Go.Proofs.Ytegnghbgkiddoaa.PA
open Go.RowKit Go.Proofs.YtegnghbgkiddoaaW.PrintWords Go.Proofs.YtegnghbgkiddoaaW.PrintLast Go.Proofs.YtegnghbgkiddoaaW.PrintMore
attribute [local go_sem] max2_int min2_int max_two min_two max_three min_three max_four min_four   -- for this text's walks alone
set_option linter.unusedVariables false
set_option linter.unusedSimpArgs false

/-! ### spec_DrawNextClaims: function 52 -/
-- IMPORT HSq
def spec_DrawNextClaims.m (b : Int) : Int := 4 - (if b = 7 then 1 else 0)
def spec_DrawNextClaims.row (b5 b6 b7 : Int) : List Int := ([b5, b6, 0, 0] : List Int).take (spec_DrawNextClaims.m b7).toNat
def spec_DrawNextClaims.f (k : Nat) (l0 : List Int) : Option (Int × (List (S44)) × (List (List Int))) := (spec_l21Open.f l0).bind fun b0 => (spec_l7Bent.f k b0.1 b0.2).bind fun b1 => (spec_l21Rd_pick.f k b0.1 b1.2.2 4).bind fun b2 => (spec_ClaimsAfter.f k b1.1 b1.2.1 b2.1).bind fun cl =>
 if 0 < cl.length then (spec_l21Rd_pick.f k b0.1 b2.2 4).bind fun b3 => if b3.1 = 0 then (spec_l21Rd_pick.f k b0.1 b3.2 (cl.length : Int)).bind fun b4 => (spec_l21Rd_pick.f k b0.1 b4.2 9).bind fun b5 => (spec_l21Rd_num.f k b0.1 b5.2 ([0, 7, 10000, 10001, (-1)] : List Int)).bind fun b6 => (spec_l21Rd_pick.f k b0.1 b6.2 8).bind fun b7 =>
   if (0 ≤ b4.1 ∧ b4.1 < (cl.length : Int)) ∧ 0 ≤ b7.1 ∧ b7.1 < 8 then some (b1.1, b1.2.1, cl.set b4.1.toNat (spec_DrawNextClaims.row b5.1 b6.1 b7.1)) else none
  else some (b1.1, b1.2.1, cl)
 else some (b1.1, b1.2.1, cl)
theorem spec_DrawNextClaims.quo {b : Int} (h0 : 0 ≤ b) (h1 : b < 8) : Int.tdiv b 7 = if b = 7 then 1 else 0 := by
 rw [Int.tdiv_eq_ediv_of_nonneg h0]
 split <;> omega
theorem spec_DrawNextClaims.put {W : World} {base g n cap : Nat} {cl : List (List Int)} {u : Value} {ys : List Int} (hC : Kd.S (Kd.slice 3 (Kd.int .i64)) 24 W base (fun k => True ∧ some k ≠ u.ownBlock) (.slice (some ⟨g, 0, none⟩) n cap) cl) (i : Int) (h0 : 0 ≤ i) (h1 : i < n) (hu : Kd.R (Kd.int .i64) 3 W base (fun _ => True) u ys) :
  Kd.S (Kd.slice 3 (Kd.int .i64)) 24 (W.setCell ⟨g, i.toNat, none⟩ u) base (fun _ => True) (.slice (some ⟨g, 0, none⟩) n cap) (cl.set i.toNat ys) := by
 have hC2 : Kd.S (Kd.slice 3 (Kd.int .i64)) 24 W base (fun k_ => ((fun _ => True)) k_ ∧ ¬ ((fun k_ => some k_ = u.ownBlock)) k_) (.slice (some ⟨g, 0, none⟩) n cap) cl := Kd.S_mono hC (fun k_ hk => ⟨trivial, fun e_ => hk.2 e_⟩)
 obtain ⟨oki, ce, hcl, hM, hcc, hfr, hoki, hH⟩ := Kd.S_elem hC2 [] i h0 h1
 obtain ⟨ve, rfl, ge⟩ := hM
 have hu2 : Kd.R (Kd.int .i64) 3 W base (fun k_ => ((fun _ => True)) k_ ∧ k_ ≠ g) u ys := Kd.R_mono (Kd.R_apart' hu (Kd.S_typed hC) (by decide)) (fun k hk => ⟨trivial, fun e_ => hk.2 (by rw [e_]; rfl)⟩)
 have HP := Kd.S_seg hH h0 h1 (seg := [u]) (j := 0) (show 1 ≤ 1 from by decide) (x' := ys) (Kd.M_row (Kd.R_mono (Kd.R_tight rfl hu2) (fun _ h_ => Or.inr h_))) (fun _ hk => hk) (fun k_ hk_ => hu2.1 k_ hk_.symm)
 have h := HP.1
 rw [show i.toNat * ((Kd.slice 3 (Kd.int .i64))).sz + 0 = i.toNat from Nat.mul_one _] at h
 exact h
theorem spec_DrawNextClaims.at_ {W : World} {base g n cap : Nat} {ok : Nat → Prop} {cl : List (List Int)} (hC : Kd.S (Kd.slice 3 (Kd.int .i64)) 24 W base ok (.slice (some ⟨g, 0, none⟩) n cap) cl) (i : Int) (h0 : 0 ≤ i) (h1 : i < n) : ∃ u, W.cell? ⟨g, i.toNat, none⟩ = some u ∧ W.frozen? ⟨g, i.toNat, none⟩ = false := by
 obtain ⟨oki, ce, hcl, hM, hcc, hfr, hoki, hH⟩ := Kd.S_elem hC [] i h0 h1
 obtain ⟨ve, rfl, ge⟩ := hM
 have h2 := hcc 0 _ rfl
 have h3 := hfr 0
 rw [show i.toNat * ((Kd.slice 3 (Kd.int .i64))).sz + 0 = i.toNat from Nat.mul_one _] at h2 h3
 exact ⟨_, h2, h3⟩
set_option maxHeartbeats 16000000 in
set_option maxRecDepth 100000 in
theorem spec_DrawNextClaims.calls (k : Nat) (A0 : Option Addr) (c0 : Nat) (l0 : List Int) (r1 : Int) (r2 : List (S44)) (r3 : List (List Int)) (w : World) (hr0 : Kd.C (Kd.int .u8) w A0 l0.length l0) (hc0 : l0.length ≤ c0) (h : spec_DrawNextClaims.f k l0 = some (r1, r2, r3)) :
  Calls Try.prog 52 #[.slice A0 l0.length c0] w fun e w' => ∃ v1_ v2_ : Value, e = .returned (.tuple #[.int .i64 r1, v1_, v2_]) ∧ Kd.R k44 44 w' w.heap.size (fun _ => True) v1_ r2 ∧ Kd.S (Kd.slice 3 (Kd.int .i64)) 24 w' w.heap.size (fun _ => True) v2_ r3 ∧ Below w.heap.size w w' := by
 unfold spec_DrawNextClaims.f at h
 have HR0 := Aside0.mk hr0
 have HC0 := Aside0.mk hc0
 have HB := Aside0.mk (Below.refl w.heap.size w)
 clear hr0 hc0
 replace h := Option.bind_eq_some_iff.mp h
 obtain ⟨⟨bs, p0⟩, A0_, h⟩ := h
 dsimp only at h
 replace h := Option.bind_eq_some_iff.mp h
 obtain ⟨⟨n, list, p1⟩, A1_, h⟩ := h
 dsimp only at h
 replace h := Option.bind_eq_some_iff.mp h
 obtain ⟨⟨b2, p2⟩, A2_, h⟩ := h
 dsimp only at h
 replace h := Option.bind_eq_some_iff.mp h
 obtain ⟨cl, A3_, h⟩ := h
 have A0 := Aside0.mk A0_
 have A1 := Aside0.mk A1_
 have A2 := Aside0.mk A2_
 have A3 := Aside0.mk A3_
 have HH := Aside0.mk h
 clear A0_ A1_ A2_ A3_ h
 go_enter Try.func52, Try.ntmps52
 go_wp2_with fail
 refine (spec_l21Open.calls _ _ l0 bs p0 w _ (bw HB.out) HR0.out HC0.out A0.out).mono ?_
 rintro e w1 ⟨g, rfl, hi, hb, hb2⟩
 have HI := Aside0.mk hi
 have HB1 := Aside0.mk hb
 clear hi hb hb2 HB
 have HB := HB1
 clear HB1
 go_wp2_with fail
 refine (spec_l7Bent.calls k g bs p0 n list p1 w _ (by (with_reducible repeat (first | apply IsS102.alloc | apply IsS102.drewN | apply IsS102.drew)); exact HI.out) (bw HB.out) A1.out).mono ?_
 rintro e w2 ⟨vl, rfl, ho, hi, hb, hk⟩
 have HL := Aside0.mk (Kd.R_lower ho (below_size (bw HB.out)))
 have HI1 := Aside0.mk hi
 have HB1 := Aside0.mk hb
 clear ho hi hb hk HB HI
 have HB := HB1
 have HI := HI1
 clear HB1 HI1
 go_wp2_with fail
 refine (spec_l21Rd_pick.calls k g bs p1 4 b2 p2 w _ (by (with_reducible repeat (first | apply IsS102.alloc | apply IsS102.drewN | apply IsS102.drew)); exact HI.out) (bw HB.out) A2.out).mono ?_
 rintro e w3 ⟨rfl, hi, hb, hk⟩
 have HL1 := Aside0.mk (Kd.R_mono (Kd.R_keep (IsS102.apart (by (with_reducible repeat (first | apply IsS102.alloc | apply IsS102.drewN | apply IsS102.drew)); exact HI.out) (ru HL.out) (by decide)) hk (fun _ h => h.2)) (fun _ h => h.1))
 have HI1 := Aside0.mk hi
 have HB1 := Aside0.mk hb
 clear hi hb hk HB HI HL
 have HB := HB1
 have HI := HI1
 have HL := HL1
 clear HB1 HI1 HL1
 obtain ⟨Al, cal, eal⟩ := Kd.R_slice HL.out
 subst eal
 go_wp2_with fail
 refine (spec_ClaimsAfter.calls k n Al cal list b2 cl _ (by repeat (first | exact (Kd.R_reads' HL.out).2.2 | (with_reducible refine Kd.C_alloc ?_ _) | (with_reducible refine Kd.C_drewN ?_ _) | (with_reducible refine Kd.C_drew ?_))) (Kd.R_reads' HL.out).2.1 A3.out).mono ?_
 rintro e w4 ⟨vc, rfl, ho, hb⟩
 have HC := Aside0.mk (Kd.S_lower ho (below_size (bw HB.out)))
 have HL1 := Aside0.mk (Kd.R_below (ru HL.out) hb)
 have HI1 := Aside0.mk (IsS102.below (by (with_reducible repeat (first | apply IsS102.alloc | apply IsS102.drewN | apply IsS102.drew)); exact HI.out) hb)
 have HB1 := Aside0.mk (below_step (bw HB.out) hb)
 clear ho hb HB HI HL
 have HB := HB1
 have HI := HI1
 have HL := HL1
 clear HB1 HI1 HL1
 obtain ⟨Ac, cac, eac⟩ := Kd.S_slice HC.out
 subst eac
 have h := HH.out
 by_cases c1 : 0 < cl.length
 rotate_left 1
 ·rw [if_neg c1] at h
  simp only [Option.some.injEq, Prod.mk.injEq] at h
  obtain ⟨rfl, rfl, rfl⟩ := h
  have q1 : decide ((cl.length : Int) > 0) = false := decide_eq_false (by omega)
  have q1' : decide (0 < cl.length) = false := decide_eq_false c1
  clear HH
  go_wp2_with fail
  go_ret3
  exact ⟨_, _, fe, (ru HL.out), (by (with_reducible repeat (first | apply Kd.S_alloc | apply Kd.S_drewN | apply Kd.S_drew)); exact HC.out), (bw HB.out)⟩
 rw [if_pos c1] at h
 have q1 : decide ((cl.length : Int) > 0) = true := decide_eq_true (by omega)
 have q1' : decide (0 < cl.length) = true := decide_eq_true c1
 have q1p : (0 < cl.length) = True := eq_true c1
 replace h := Option.bind_eq_some_iff.mp h
 obtain ⟨⟨b3, p3⟩, A4_, h⟩ := h
 dsimp only at h
 have A4 := Aside0.mk A4_
 clear A4_ HH
 have HH := Aside0.mk h
 clear h
 go_wp2_with fail
 refine (spec_l21Rd_pick.calls k g bs p2 4 b3 p3 w _ (by (with_reducible repeat (first | apply IsS102.alloc | apply IsS102.drewN | apply IsS102.drew)); exact HI.out) (bw HB.out) A4.out).mono ?_
 rintro e w5 ⟨rfl, hi, hb, hk⟩
 have HL1 := Aside0.mk (Kd.R_mono (Kd.R_keep (IsS102.apart (by (with_reducible repeat (first | apply IsS102.alloc | apply IsS102.drewN | apply IsS102.drew)); exact HI.out) (ru HL.out) (by decide)) hk (fun _ h => h.2)) (fun _ h => h.1))
 have HC1 := Aside0.mk (Kd.S_mono (Kd.S_keep (IsS102.apartS (by (with_reducible repeat (first | apply IsS102.alloc | apply IsS102.drewN | apply IsS102.drew)); exact HI.out) (by (with_reducible repeat (first | apply Kd.S_alloc | apply Kd.S_drewN | apply Kd.S_drew)); exact HC.out) (by decide)) hk (fun _ h => h.2)) (fun _ h => h.1))
 have HI1 := Aside0.mk hi
 have HB1 := Aside0.mk hb
 clear hi hb hk HB HI HL HC
 have HB := HB1
 have HI := HI1
 have HL := HL1
 have HC := HC1
 clear HB1 HI1 HL1 HC1
 have h := HH.out
 by_cases c3 : b3 = 0
 rotate_left 1
 ·rw [if_neg c3] at h
  simp only [Option.some.injEq, Prod.mk.injEq] at h
  obtain ⟨rfl, rfl, rfl⟩ := h
  have q3 : (b3 == 0) = false := beq_eq_false_iff_ne.mpr c3
  clear HH
  go_wp2_with fail
  go_ret3
  exact ⟨_, _, fe, (ru HL.out), (by (with_reducible repeat (first | apply Kd.S_alloc | apply Kd.S_drewN | apply Kd.S_drew)); exact HC.out), (bw HB.out)⟩
 subst c3
 rw [if_pos rfl] at h
 replace h := Option.bind_eq_some_iff.mp h
 obtain ⟨⟨b4, p4⟩, A5_, h⟩ := h
 dsimp only at h
 replace h := Option.bind_eq_some_iff.mp h
 obtain ⟨⟨b5, p5⟩, A6_, h⟩ := h
 dsimp only at h
 replace h := Option.bind_eq_some_iff.mp h
 obtain ⟨⟨b6, p6⟩, A7_, h⟩ := h
 dsimp only at h
 replace h := Option.bind_eq_some_iff.mp h
 obtain ⟨⟨b7, p7⟩, A8_, h⟩ := h
 dsimp only at h
 obtain ⟨y8, hy8⟩ : ∃ y_ : List Int, y_ = ([0, 7, 10000, 10001, (-1)] : List Int) := ⟨_, rfl⟩
 obtain ⟨y10, hy10⟩ : ∃ y_ : List Int, y_ = ([b5, b6, 0, 0] : List Int) := ⟨_, rfl⟩
 rw [← hy8] at A7_
 by_cases cb : (0 ≤ b4 ∧ b4 < (cl.length : Int)) ∧ 0 ≤ b7 ∧ b7 < 8
 rotate_left 1
 ·rw [if_neg cb] at h; cases h
 rw [if_pos cb] at h
 simp only [Option.some.injEq, Prod.mk.injEq] at h
 obtain ⟨rfl, rfl, h3⟩ := h
 obtain ⟨⟨hb40, hb41⟩, hb70, hb71⟩ := cb
 have hm := spec_DrawNextClaims.quo hb70 hb71
 obtain ⟨m, hmm⟩ : ∃ m, m = spec_DrawNextClaims.m b7 := ⟨_, rfl⟩
 have hrw : spec_DrawNextClaims.row b5 b6 b7 = y10.take m.toNat := by rw [hy10, hmm]; rfl
 rw [hrw] at h3
 have H3 := Aside0.mk h3
 clear hrw h3
 have hmb : m = 4 - Int.tdiv b7 7 := by rw [hmm, hm]; rfl
 have hmr : 0 ≤ m ∧ m ≤ 4 := by rw [hmb, hm]; split <;> omega
 have hqr : 0 ≤ Int.tdiv b7 7 ∧ Int.tdiv b7 7 ≤ 1 := by rw [hm]; split <;> omega
 generalize hq : Int.tdiv b7 7 = q at hmb hqr
 have e13 : wrap64 q = q := by unfold wrap64; omega
 have e13' : IntKind.i64.wrap q = q := by rw [IntKind.wrap_i64]; omega
 have e14 : wrap64 (4 - q) = m := by unfold wrap64; omega
 have e14' : IntKind.i64.wrap (4 - q) = m := by rw [IntKind.wrap_i64]; omega
 have hly : y10.length = 4 := by rw [hy10]; rfl
 have A5 := Aside0.mk A5_
 have A6 := Aside0.mk A6_
 have A7 := Aside0.mk A7_
 have A8 := Aside0.mk A8_
 have NY8 := Aside0.mk hy8
 have NY10 := Aside0.mk hy10
 clear A5_ A6_ A7_ A8_ hy8 hy10 HH hm hmm hmb hqr
 obtain ⟨gC, capC, eC, hgb, _, _, _⟩ := Kd.S_form HC.out c1
 injection eC with eC1 eC2 eC3
 subst eC1
 clear eC2 eC3
 have HGC := Aside0.mk hgb
 clear hgb
 have q4p : (0 ≤ b4) = True := eq_true hb40
 have q4q : (b4 < (cl.length : Int)) = True := eq_true hb41
 have q4d : decide (0 ≤ b4) = true := decide_eq_true hb40
 have q4e : decide (b4 < (cl.length : Int)) = true := decide_eq_true hb41
 have qmp : (0 ≤ m) = True := eq_true hmr.1
 go_wp2_with fail
 refine (spec_l21Rd_pick.calls k g bs p3 (cl.length : Int) b4 p4 w _ (by (with_reducible repeat (first | apply IsS102.alloc | apply IsS102.drewN | apply IsS102.drew)); exact HI.out) (bw HB.out) A5.out).mono ?_
 rintro e w6 ⟨rfl, hi, hb, hk⟩
 have HL1 := Aside0.mk (Kd.R_mono (Kd.R_keep (IsS102.apart HI.out HL.out (by decide)) hk (fun _ h => h.2)) (fun _ h => h.1))
 have HC1 := Aside0.mk (Kd.S_mono (Kd.S_keep (IsS102.apartS HI.out HC.out (by decide)) hk (fun _ h => h.2)) (fun _ h => h.1))
 have HI1 := Aside0.mk hi
 have HB1 := Aside0.mk hb
 clear hi hb hk HB HI HL HC
 have HB := HB1
 have HI := HI1
 have HL := HL1
 have HC := HC1
 clear HB1 HI1 HL1 HC1
 go_wp2_with fail
 refine (spec_l21Rd_pick.calls k g bs p4 9 b5 p5 w _ (by (with_reducible repeat (first | apply IsS102.alloc | apply IsS102.drewN | apply IsS102.drew)); exact HI.out) (bw HB.out) A6.out).mono ?_
 rintro e w7 ⟨rfl, hi, hb, hk⟩
 have HL1 := Aside0.mk (Kd.R_mono (Kd.R_keep (IsS102.apart HI.out HL.out (by decide)) hk (fun _ h => h.2)) (fun _ h => h.1))
 have HC1 := Aside0.mk (Kd.S_mono (Kd.S_keep (IsS102.apartS HI.out HC.out (by decide)) hk (fun _ h => h.2)) (fun _ h => h.1))
 have HI1 := Aside0.mk hi
 have HB1 := Aside0.mk hb
 clear hi hb hk HB HI HL HC
 have HB := HB1
 have HI := HI1
 have HL := HL1
 have HC := HC1
 clear HB1 HI1 HL1 HC1
 go_wp2_with (first | ((with_reducible refine gate_dst (N := 37) rfl ?_); refine Kd.R_lit (Kd.int .i64) _ 3 ?hg (N := 37) ?hd (xs := ([0, 7, 10000, 10001, (-1)] : List Int)) (inner := [.int .i64 0, .int .i64 7, .int .i64 10000, .int .i64 10001, .int .i64 (-1)]) (ok := fun _ => True) (okp := fun _ => True) ?hr ?hp (fun _ hk => hk) trivial (Below.refl _ _) (Nat.le_refl _) (by simp) ?_; (case hd => rfl); (case hg => rfl); (case hr => first | (go_simp; done) | (go_simp; rfl)); (case hp => exact (Reps.one (show Kd.M (Kd.int .i64) _ _ _ 0 [.int .i64 0] from rfl) (Reps.one (show Kd.M (Kd.int .i64) _ _ _ 7 [.int .i64 7] from rfl) (Reps.one (show Kd.M (Kd.int .i64) _ _ _ 10000 [.int .i64 10000] from rfl) (Reps.one (show Kd.M (Kd.int .i64) _ _ _ 10001 [.int .i64 10001] from rfl) (Reps.one (show Kd.M (Kd.int .i64) _ _ _ (-1) [.int .i64 (-1)] from rfl) (Reps.none _ _))))))); intro v37 w8 ho hb hg_ hnew_; clear hg_ hnew_; (first | rw [← NY8.out] at ho | (simp only [Int.reduceToNat] at ho; rw [← NY8.out] at ho)); have HT := Aside0.mk (Kd.R_lower ho (below_size (bw HB.out))); have HL1 := Aside0.mk (Kd.R_below (ru HL.out) hb); have HC1 := Aside0.mk (Kd.S_below (by (with_reducible repeat (first | apply Kd.S_alloc | apply Kd.S_drewN | apply Kd.S_drew)); exact HC.out) hb); have HI1 := Aside0.mk (IsS102.below (by (with_reducible repeat (first | apply IsS102.alloc | apply IsS102.drewN | apply IsS102.drew)); exact HI.out) hb); have HB1 := Aside0.mk (below_step (bw HB.out) hb); clear ho hb HB HI HL HC; have HB := HB1; have HI := HI1; have HL := HL1; have HC := HC1; clear HB1 HI1 HL1 HC1; obtain ⟨At37, ct37, et37⟩ := Kd.R_slice HT.out; subst et37))
 refine (spec_l21Rd_num.calls k g bs p5 At37 ct37 y8 b6 p6 w _ (by (with_reducible repeat (first | apply IsS102.alloc | apply IsS102.drewN | apply IsS102.drew)); exact HI.out) (bw HB.out) (by repeat (first | exact (Kd.R_reads' HT.out).2.2 | (with_reducible refine Kd.C_alloc ?_ _) | (with_reducible refine Kd.C_drewN ?_ _) | (with_reducible refine Kd.C_drew ?_))) (Kd.R_reads' HT.out).2.1 (far_slice (IsS102.own_ne HI.out HT.out (by decide))) A7.out).mono ?_
 rintro e w9 ⟨rfl, hi, hb, hk⟩
 have HL1 := Aside0.mk (Kd.R_mono (Kd.R_keep (IsS102.apart HI.out HL.out (by decide)) hk (fun _ h => h.2)) (fun _ h => h.1))
 have HC1 := Aside0.mk (Kd.S_mono (Kd.S_keep (IsS102.apartS HI.out HC.out (by decide)) hk (fun _ h => h.2)) (fun _ h => h.1))
 have HI1 := Aside0.mk hi
 have HB1 := Aside0.mk hb
 clear hi hb hk HB HI HL HC HT
 have HB := HB1
 have HI := HI1
 have HL := HL1
 have HC := HC1
 clear HB1 HI1 HL1 HC1
 go_wp2_with (first | ((with_reducible refine gate_dst (N := 39) rfl ?_); refine Kd.R_lit (Kd.int .i64) _ 3 ?hg (N := 39) ?hd (xs := ([b5, b6, 0, 0] : List Int)) (inner := [.int .i64 b5, .int .i64 b6, .int .i64 0, .int .i64 0]) (ok := fun _ => True) (okp := fun _ => True) ?hr ?hp (fun _ hk => hk) trivial (Below.refl _ _) (Nat.le_refl _) (by simp) ?_; (case hd => rfl); (case hg => rfl); (case hr => first | (go_simp; done) | (go_simp; rfl)); (case hp => exact (Reps.one (show Kd.M (Kd.int .i64) _ _ _ b5 [.int .i64 b5] from rfl) (Reps.one (show Kd.M (Kd.int .i64) _ _ _ b6 [.int .i64 b6] from rfl) (Reps.one (show Kd.M (Kd.int .i64) _ _ _ 0 [.int .i64 0] from rfl) (Reps.one (show Kd.M (Kd.int .i64) _ _ _ 0 [.int .i64 0] from rfl) (Reps.none _ _)))))); intro v39 w10 ho hb hg_ hnew_; clear hg_ hnew_; (first | rw [← NY10.out] at ho | (simp only [Int.reduceToNat] at ho; rw [← NY10.out] at ho)); have HT := Aside0.mk (Kd.R_lower ho (below_size (bw HB.out))); have HL1 := Aside0.mk (Kd.R_below (ru HL.out) hb); have HC1 := Aside0.mk (Kd.S_elder' (by (with_reducible repeat (first | apply Kd.S_alloc | apply Kd.S_drewN | apply Kd.S_drew)); exact HC.out) (Kd.R_base ho) hb); have HI1 := Aside0.mk (IsS102.below (by (with_reducible repeat (first | apply IsS102.alloc | apply IsS102.drewN | apply IsS102.drew)); exact HI.out) hb); have HB1 := Aside0.mk (below_step (bw HB.out) hb); clear ho hb HB HI HL HC; have HB := HB1; have HI := HI1; have HL := HL1; have HC := HC1; clear HB1 HI1 HL1 HC1; obtain ⟨At39, ct39, et39⟩ := Kd.R_slice HT.out; subst et39))
 refine (spec_l21Rd_pick.calls k g bs p6 8 b7 p7 w _ (by (with_reducible repeat (first | apply IsS102.alloc | apply IsS102.drewN | apply IsS102.drew)); exact HI.out) (bw HB.out) A8.out).mono ?_
 rintro e w11 ⟨rfl, hi, hb, hk⟩
 have HL1 := Aside0.mk (Kd.R_mono (Kd.R_keep (IsS102.apart HI.out HL.out (by decide)) hk (fun _ h => h.2)) (fun _ h => h.1))
 have HC1 := Aside0.mk (Kd.S_mono (Kd.S_keep (IsS102.apartS HI.out HC.out (by decide)) hk (fun _ h => h.2)) (fun _ h => h.1))
 have HT1 := Aside0.mk (Kd.R_mono (Kd.R_keep (IsS102.apart HI.out HT.out (by decide)) hk (fun _ h => h.2)) (fun _ h => h.1))
 have HI1 := Aside0.mk hi
 have HB1 := Aside0.mk hb
 clear hi hb hk HB HI HL HC HT
 have HB := HB1
 have HI := HI1
 have HL := HL1
 have HC := HC1
 have HT := HT1
 clear HB1 HI1 HL1 HC1 HT1
 obtain ⟨u_, hx_, hf_⟩ := spec_DrawNextClaims.at_ HC.out b4 hb40 hb41
 obtain ⟨cs_, hcs_⟩ := Kd.S_typed HC.out gC rfl
 have HCS := Aside0.mk hcs_
 have hrd_ := Kd.R_reads' HT.out
 obtain ⟨i0, hi0, _, hsz0, _⟩ := info_parts info3
 have hcut := cut_to (P := Try.prog) 24 3 .i64 Try.underlying24 hi0 At39 y10.length ct39 m hmr.1 (by have := hmr.2; omega) (by have := hrd_.2.1; omega)
 rw [hly] at hcut
 clear hrd_ hcs_
 go_wp2_with fail
 go_ret3
 have HU := Aside0.mk (Kd.R_take HT.out (m := m.toNat) (by have := hmr.2; rw [hly]; omega))
 exact ⟨_, _, fe, (by (with_reducible repeat (first | apply Kd.R_alloc | apply Kd.R_drewN | apply Kd.R_drew)); exact Kd.R_set HL.out HCS.out (by decide) _ _), (by rw [← H3.out]; (with_reducible repeat (first | apply Kd.S_alloc | apply Kd.S_drewN | apply Kd.S_drew)); exact spec_DrawNextClaims.put (u := .slice At39 m.toNat ct39) (Kd.S_mono HC.out (fun k_ hk_ => ⟨trivial, fun e_ => hk_.2 (e_.trans (by cases At39 <;> rfl))⟩)) b4 hb40 hb41 HU.out), (bw HB.out)⟩

end Go.Proofs.Ytegnghbgkiddoaa.PA
