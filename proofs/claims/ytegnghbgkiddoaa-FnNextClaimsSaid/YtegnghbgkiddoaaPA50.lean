-- Laid by this session's own program (pr.py) over the translation; Lean checks it.
import Derived.Test.YtegnghbgkiddoaaPA0
import Derived.Test.YtegnghbgkiddoaaPA27
import Derived.Test.YtegnghbgkiddoaaPA28
import Derived.Test.YtegnghbgkiddoaaPA33
import Derived.Test.YtegnghbgkiddoaaPA49
import Derived.Test.YtegnghbgkiddoaaHSq
namespace Go.Proofs.Ytegnghbgkiddoaa.PA
open Go.RowKit Go.Proofs.YtegnghbgkiddoaaW.PrintWords Go.Proofs.YtegnghbgkiddoaaW.PrintLast Go.Proofs.YtegnghbgkiddoaaW.PrintMore
attribute [local go_sem] max2_int min2_int max_two min_two max_three min_three max_four min_four   -- for this text's walks alone
set_option linter.unusedVariables false
set_option linter.unusedSimpArgs false

/-! ### laws_FnNextClaims: function 11 -/
-- IMPORT HSq
def laws_FnNextClaims.okB (list : List S44) (claims : List (List Int)) (b : Int) (x : List Int) : Bool :=
  decide (x.length = 4) && (decide (rd x 3 < 0 ∧ rd x 0 = b ∧ rd x 1 = 0) || decide (((0 ≤ rd x 3 ∧ rd x 3 < (list.length : Int)) ∧ 0 ≤ rd x 2 ∧ rd x 2 < (claims.length : Int)) ∧ (rd_L5 claims (rd x 2)).length = 4 ∧
    wrap64 (wrap64 ((rd_T44 list (rd x 3)).f0 + (rd_T44 list (rd x 3)).f1) - b) = rd x 2 ∧ rd (rd_L5 claims (rd x 2)) 0 = rd x 0 ∧ wrap64 (rd (rd_L5 claims (rd x 2)) 1 + (rd_T44 list (rd x 3)).f2) = rd x 1))
def laws_FnNextClaims.okA (list : List S44) (claims nx : List (List Int)) : Bool := (List.range nx.length).all fun b => laws_FnNextClaims.okB list claims (b : Int) (rd_L5 nx (b : Int))
theorem laws_FnNextClaims.okA_at {list : List S44} {claims nx : List (List Int)} (h : laws_FnNextClaims.okA list claims nx = true) (j : Nat) (hj : j < nx.length) : (rd_L5 nx (j : Int)).length = 4 ∧ ((rd (rd_L5 nx (j : Int)) 3 < 0 ∧ rd (rd_L5 nx (j : Int)) 0 = (j : Int) ∧ rd (rd_L5 nx (j : Int)) 1 = 0) ∨
    (((0 ≤ rd (rd_L5 nx (j : Int)) 3 ∧ rd (rd_L5 nx (j : Int)) 3 < (list.length : Int)) ∧ 0 ≤ rd (rd_L5 nx (j : Int)) 2 ∧ rd (rd_L5 nx (j : Int)) 2 < (claims.length : Int)) ∧ (rd_L5 claims (rd (rd_L5 nx (j : Int)) 2)).length = 4 ∧
    wrap64 (wrap64 ((rd_T44 list (rd (rd_L5 nx (j : Int)) 3)).f0 + (rd_T44 list (rd (rd_L5 nx (j : Int)) 3)).f1) - (j : Int)) = rd (rd_L5 nx (j : Int)) 2 ∧ rd (rd_L5 claims (rd (rd_L5 nx (j : Int)) 2)) 0 = rd (rd_L5 nx (j : Int)) 0 ∧
    wrap64 (rd (rd_L5 claims (rd (rd_L5 nx (j : Int)) 2)) 1 + (rd_T44 list (rd (rd_L5 nx (j : Int)) 3)).f2) = rd (rd_L5 nx (j : Int)) 1)) := by
  unfold laws_FnNextClaims.okA at h
  rw [List.all_eq_true] at h
  have h1 := h j (List.mem_range.2 hj)
  unfold laws_FnNextClaims.okB at h1
  rw [Bool.and_eq_true, Bool.or_eq_true, decide_eq_true_eq, decide_eq_true_eq, decide_eq_true_eq] at h1
  exact h1
theorem laws_FnNextClaims.cells {W : World} {A : Option Addr} {x : List Int} (h : Kd.C (Kd.int .i64) W A x.length x) (hl : x.length = 4) : ∃ ad, A = some ad ∧ W.cell? ad = some (.int .i64 (rd x 0)) ∧ W.cell? ⟨ad.block, ad.off + 1, none⟩ = some (.int .i64 (rd x 1)) ∧ W.cell? ⟨ad.block, ad.off + 2, none⟩ = some (.int .i64 (rd x 2)) ∧ W.cell? ⟨ad.block, ad.off + 3, none⟩ = some (.int .i64 (rd x 3)) := by
  obtain ⟨ad, e, h0⟩ := Kd.at_int h 0 (by omega) (by omega)
  obtain ⟨a1, e1, h1⟩ := Kd.at_int h 1 (by omega) (by omega)
  obtain ⟨a2, e2, h2⟩ := Kd.at_int h 2 (by omega) (by omega)
  obtain ⟨a3, e3, h3⟩ := Kd.at_int h 3 (by omega) (by omega)
  subst e
  obtain rfl : ad = a1 := by injection e1
  obtain rfl : ad = a2 := by injection e2
  obtain rfl : ad = a3 := by injection e3
  rw [show ((0 : Int)).toNat = 0 from rfl, Addr.add_zero'] at h0
  simp only [show (1 : Int).toNat = 1 from rfl, Nat.reduceMul, Nat.reduceEqDiff, Go.Addr.add, ↓reduceIte] at h1
  simp only [show (2 : Int).toNat = 2 from rfl, Nat.reduceMul, Nat.reduceEqDiff, Go.Addr.add, ↓reduceIte] at h2
  simp only [show (3 : Int).toNat = 3 from rfl, Nat.reduceMul, Nat.reduceEqDiff, Go.Addr.add, ↓reduceIte] at h3
  exact ⟨ad, rfl, h0, h1, h2, h3⟩
def laws_FnNextClaims.f (k : Nat) (l0 : List Int) : Option (Bool) := if (l0.length : Int) > 1048576 then some true else (spec_DrawNextClaims.f k l0).bind fun b0 => (impl_NextClaims.f k b0.1 b0.2.1 b0.2.2).bind fun nx => (spec_NextClaims.f k b0.1 b0.2.1 b0.2.2).bind fun ns => (laws_wnPairs.f k nx ns).bind fun t => if t = true ∧ laws_FnNextClaims.okA b0.2.1 b0.2.2 nx = true then some true else none
def laws_FnNextClaims.T14 : Bool × List (List Nat × List Nat) := (true, [([], []), ([0], [0]), ([], []), ([2], [2]), ([1, 3], [1, 3]), ([], []), ([4, 5], [4, 5]), ([], []), ([7], [7]), ([8], [8]), ([6, 9], [6, 9]), ([10], [10]), ([11], [11]), ([11], [11]), ([13, 11], [11, 13]), ([14, 11], [11, 14]), ([12, 15, 11], [11, 12, 15]), ([16, 11], [11, 16]), ([17, 11], [11, 17]), ([18, 11], [11, 18]), ([11], [11]), ([20, 11], [11, 20]), ([21, 11], [11, 21]), ([19, 22, 11], [11, 19, 22]), ([11, 23], [11, 23]), ([24, 11], [24]), ([25], [25]), ([25], [25]), ([27, 25], [25, 27]), ([28, 25], [25, 28]), ([26, 29, 25], [25, 26, 29]), ([30, 25], [25, 30]), ([31, 25], [25, 31]), ([32, 25], [25, 32]), ([25], [25]), ([34, 25], [25, 34]), ([33, 35, 25], [25, 33, 35]), ([25], [25]), ([37, 25], [25, 37]), ([38, 25], [25, 38]), ([36, 39, 25], [25, 36, 39]), ([25, 40], [25, 40])])
def laws_FnNextClaims.B14 : List Nat := [0, 1, 0, 4, 15, 0, 63, 0, 128, 384, 1023, 2047, 4095, 4095, 12287, 28671, 65535, 131071, 262143, 524287, 4095, 1052671, 3149823, 8388607, 16777215, 33554431, 67108863, 67108863, 201326591, 469762047, 1073741823, 2147483647, 4294967295, 8589934591, 67108863, 17246978047, 68719476735, 67108863, 137506062335, 412383969279, 1099511627775, 2199023255551]
theorem laws_FnNextClaims.tab14 : rtab .any (opsOf Try.f11 14) = laws_FnNextClaims.T14 := by kernel_rfl
theorem laws_FnNextClaims.bits14 : waitsOk laws_FnNextClaims.T14.2 laws_FnNextClaims.B14 = true := by kernel_rfl
set_option maxHeartbeats 16000000 in
set_option maxRecDepth 100000 in
theorem laws_FnNextClaims.calls (k : Nat) (A0 : Option Addr) (c0 : Nat) (l0 : List Int) (r : Bool) (w : World) (hr0 : Kd.C (Kd.int .u8) w A0 l0.length l0) (hc0 : l0.length ≤ c0) (h : laws_FnNextClaims.f k l0 = some r) :
    Calls Try.prog 11 #[.slice A0 l0.length c0] w fun e w' => e = .returned (.bool r) ∧ Below w.heap.size w w' := by
  unfold laws_FnNextClaims.f at h
  have HR0 := Aside0.mk hr0
  have HC0 := Aside0.mk hc0
  have HB := Aside0.mk (Below.refl w.heap.size w)
  clear hr0 hc0
  by_cases c0 : (l0.length : Int) > 1048576
  · rw [if_pos c0] at h
    obtain rfl := Option.some.inj h
    have q0 : decide (1048576 < (l0.length : Int)) = true := decide_eq_true c0
    have q0' : decide (1048576 < l0.length) = true := decide_eq_true (by omega)
    go_enter Try.func11, Try.ntmps11
    go_wp2_with fail
    go_ret
    exact ⟨fe, (bw HB.out)⟩
  rw [if_neg c0] at h
  have q0 : decide (1048576 < (l0.length : Int)) = false := decide_eq_false c0
  have q0' : decide (1048576 < l0.length) = false := decide_eq_false (by omega)
  replace h := Option.bind_eq_some_iff.mp h
  obtain ⟨⟨n, list, claims⟩, A0_, h⟩ := h
  dsimp only at h
  replace h := Option.bind_eq_some_iff.mp h
  obtain ⟨nx, A1_, h⟩ := h
  replace h := Option.bind_eq_some_iff.mp h
  obtain ⟨ns, A2_, h⟩ := h
  replace h := Option.bind_eq_some_iff.mp h
  obtain ⟨t, A3_, h⟩ := h
  by_cases ct : t = true ∧ laws_FnNextClaims.okA list claims nx = true
  rotate_left 1
  · rw [if_neg ct] at h; cases h
  rw [if_pos ct] at h
  obtain rfl := Option.some.inj h
  obtain ⟨rfl, hok⟩ := ct
  have A0 := Aside0.mk A0_
  have A1 := Aside0.mk A1_
  have A2 := Aside0.mk A2_
  have A3 := Aside0.mk A3_
  have HOK := Aside0.mk hok
  clear A0_ A1_ A2_ A3_ h hok c0
  go_enter Try.func11, Try.ntmps11
  go_wp2_with fail
  refine (spec_DrawNextClaims.calls k _ _ l0 n list claims _ (Kd.C_below HR0.out (bw HB.out)) HC0.out A0.out).mono ?_
  rintro e w1 ⟨vl, vc, rfl, hl, hc, hb⟩
  obtain ⟨Al, cal, eal⟩ := Kd.R_slice hl
  subst eal
  obtain ⟨Ac, cac, eac⟩ := Kd.S_slice hc
  subst eac
  have hl2 := (Kd.R_reads' hl).2
  have hc2 := (Kd.S_reads' hc).2
  have HL := Aside0.mk hl2
  have HC := Aside0.mk hc2
  clear hl2 hc2
  have HB1 := Aside0.mk (below_step (bw HB.out) hb)
  clear hl hc hb HB
  have HB := HB1
  clear HB1
  go_wp2_with fail
  refine (impl_NextClaims.calls k n Al cal list Ac cac claims nx _ (by repeat (first | exact HL.out.2 | (with_reducible refine Kd.C_alloc ?_ _) | (with_reducible refine Kd.C_drewN ?_ _) | (with_reducible refine Kd.C_drew ?_))) HL.out.1 (by repeat (first | exact HC.out.2 | (with_reducible refine Kd.C_alloc ?_ _) | (with_reducible refine Kd.C_drewN ?_ _) | (with_reducible refine Kd.C_drew ?_))) HC.out.1 A1.out).mono ?_
  rintro e w2 ⟨vx, rfl, hx, hb⟩
  obtain ⟨Ax, cax, eax⟩ := Kd.S_slice hx
  subst eax
  have hx2 := (Kd.S_reads' hx).2
  have HX := Aside0.mk hx2
  clear hx2
  have HL1 := Aside0.mk (And.intro HL.out.1 (Kd.C_below HL.out.2 hb))
  have HC1 := Aside0.mk (And.intro HC.out.1 (Kd.C_below HC.out.2 hb))
  have HB1 := Aside0.mk (below_step (bw HB.out) hb)
  clear hx hb HB HL HC
  have HB := HB1
  have HL := HL1
  have HC := HC1
  clear HB1 HL1 HC1
  go_wp2_with fail
  refine (spec_NextClaims.calls k n Al cal list Ac cac claims ns _ (by repeat (first | exact HL.out.2 | (with_reducible refine Kd.C_alloc ?_ _) | (with_reducible refine Kd.C_drewN ?_ _) | (with_reducible refine Kd.C_drew ?_))) HL.out.1 (by repeat (first | exact HC.out.2 | (with_reducible refine Kd.C_alloc ?_ _) | (with_reducible refine Kd.C_drewN ?_ _) | (with_reducible refine Kd.C_drew ?_))) HC.out.1 A2.out).mono ?_
  rintro e w3 ⟨vs, rfl, hs, hb⟩
  obtain ⟨As, cas, eas⟩ := Kd.S_slice hs
  subst eas
  have hs2 := (Kd.S_reads' hs).2
  have HS := Aside0.mk hs2
  clear hs2
  have HL1 := Aside0.mk (And.intro HL.out.1 (Kd.C_below HL.out.2 hb))
  have HC1 := Aside0.mk (And.intro HC.out.1 (Kd.C_below HC.out.2 hb))
  have HX1 := Aside0.mk (And.intro HX.out.1 (Kd.C_below HX.out.2 hb))
  have HB1 := Aside0.mk (below_step (bw HB.out) hb)
  clear hs hb HB HL HC HX
  have HB := HB1
  have HL := HL1
  have HC := HC1
  have HX := HX1
  clear HB1 HL1 HC1 HX1
  by_cases cz : nx.length = 0
  · have qz : ((nx.length : Int) == 0) = true := beq_iff_eq.2 (by omega)
    clear cz
    go_wp2_with fail
    refine (laws_wnPairs.calls k _ _ nx _ _ ns true _ (by repeat (first | exact HX.out.2 | (with_reducible refine Kd.C_alloc ?_ _) | (with_reducible refine Kd.C_drewN ?_ _) | (with_reducible refine Kd.C_drew ?_))) HX.out.1 (by repeat (first | exact HS.out.2 | (with_reducible refine Kd.C_alloc ?_ _) | (with_reducible refine Kd.C_drewN ?_ _) | (with_reducible refine Kd.C_drew ?_))) HS.out.1 A3.out).mono ?_
    rintro e w' ⟨rfl, ⟨nd, rfl⟩⟩
    go_wp2_with fail
    refine (spec_NextClaims.calls k n Al cal list Ac cac claims ns _ (by repeat (first | exact HL.out.2 | (with_reducible refine Kd.C_alloc ?_ _) | (with_reducible refine Kd.C_drewN ?_ _) | (with_reducible refine Kd.C_drew ?_))) HL.out.1 (by repeat (first | exact HC.out.2 | (with_reducible refine Kd.C_alloc ?_ _) | (with_reducible refine Kd.C_drewN ?_ _) | (with_reducible refine Kd.C_drew ?_))) HC.out.1 A2.out).mono ?_
    rintro e w4 ⟨vs, rfl, hs, hb⟩
    obtain ⟨At, cat, eat⟩ := Kd.S_slice hs
    subst eat
    have ht2 := (Kd.S_reads' hs).2
    have HT := Aside0.mk ht2
    clear ht2
    have HX1 := Aside0.mk (And.intro HX.out.1 (Kd.C_below (by repeat (first | exact HX.out.2 | (with_reducible refine Kd.C_alloc ?_ _) | (with_reducible refine Kd.C_drewN ?_ _) | (with_reducible refine Kd.C_drew ?_))) hb))
    have HB1 := Aside0.mk (below_step (bw HB.out) hb)
    clear hs hb HB HX
    go_wp2_with fail
    refine (laws_wnPairs.calls k _ _ nx _ _ ns true _ (by repeat (first | exact HX1.out.2 | (with_reducible refine Kd.C_alloc ?_ _) | (with_reducible refine Kd.C_drewN ?_ _) | (with_reducible refine Kd.C_drew ?_))) HX1.out.1 (by repeat (first | exact HT.out.2 | (with_reducible refine Kd.C_alloc ?_ _) | (with_reducible refine Kd.C_drewN ?_ _) | (with_reducible refine Kd.C_drew ?_))) HT.out.1 A3.out).mono ?_
    rintro e w' ⟨rfl, ⟨nd, rfl⟩⟩
    go_wp2_with fail
    go_ret
    exact ⟨fe, (bw HB1.out)⟩
  have qz : ((nx.length : Int) == 0) = false := beq_eq_false_iff_ne.2 (by omega)
  clear cz
  go_wp2_with fail
  refine (laws_wnPairs.calls k _ _ nx _ _ ns true _ (by repeat (first | exact HX.out.2 | (with_reducible refine Kd.C_alloc ?_ _) | (with_reducible refine Kd.C_drewN ?_ _) | (with_reducible refine Kd.C_drew ?_))) HX.out.1 (by repeat (first | exact HS.out.2 | (with_reducible refine Kd.C_alloc ?_ _) | (with_reducible refine Kd.C_drewN ?_ _) | (with_reducible refine Kd.C_drew ?_))) HS.out.1 A3.out).mono ?_
  rintro e w4 ⟨rfl, hd⟩
  have hb := hd.below
  have HL1 := Aside0.mk (And.intro HL.out.1 (Kd.C_below HL.out.2 hb))
  have HC1 := Aside0.mk (And.intro HC.out.1 (Kd.C_below HC.out.2 hb))
  have HX1 := Aside0.mk (And.intro HX.out.1 (Kd.C_below HX.out.2 hb))
  have HB1 := Aside0.mk (below_step (bw HB.out) hb)
  clear hd hb HB HL HC HX HS
  have HB := HB1
  have HL := HL1
  have HC := HC1
  have HX := HX1
  clear HB1 HL1 HC1 HX1
  have HW := Aside0.mk (Below.refl w4.heap.size w4)
  go_wp2_with fail
  clear qz
  have hxm : nx.length ≤ 9223372036854775807 := Kd.C_max HX.out.2
  go_loopg [43] nx.length (fun kq v43 wr => ∃ j : Nat, v43 = .int .i64 (j : Int) ∧ Aside0 (j ≤ nx.length ∧ nx.length - j ≤ kq) ∧ Aside0 (Below w4.heap.size w4 wr))
  case atStart => exact ⟨0, rfl, ⟨⟨Nat.zero_le _, by omega⟩⟩, ⟨(bw HW.out)⟩⟩
  case round =>
    clear HW
    obtain ⟨j, rfl, HJ, HW⟩ := hrel
    have hj := HJ.out
    by_cases hlt : j < nx.length
    · have q1 : decide ((j : Int) < (nx.length : Int)) = true := decide_eq_true (by omega)
      have q1' : decide (j < nx.length) = true := decide_eq_true hlt
      have q2 : (j < nx.length) = True := eq_true hlt
      obtain ⟨hx4, hrow⟩ := laws_FnNextClaims.okA_at HOK.out j hlt
      obtain ⟨adN, Ay, cay, eN, hxN, hlN, hiN⟩ := at_L5 (Kd.C_below HX.out.2 HW.out) (j : Int) (by omega) (by omega)
      subst eN
      rw [Int.toNat_natCast] at hxN
      have hiN2 := hiN
      generalize hrx : rd_L5 nx (j : Int) = x at hx4 hrow hxN hlN hiN hiN2
      obtain ⟨adx, eadx, hx0, hx1, hx2, hx3⟩ := laws_FnNextClaims.cells hiN hx4
      subst eadx
      rw [hx4] at hxN
      have HIX := Aside0.mk hiN2
      have HX4 := Aside0.mk hx4
      clear hiN hiN2 hlN hrx
      generalize g0 : rd x 0 = x0 at hrow hx0
      generalize g1 : rd x 1 = x1 at hrow hx1
      generalize g2 : rd x 2 = x2 at hrow hx2
      generalize g3 : rd x 3 = x3 at hrow hx3
      have G0 := Aside0.mk g0
      have G1 := Aside0.mk g1
      have G2 := Aside0.mk g2
      have G3 := Aside0.mk g3
      clear g0 g1 g2 g3
      rcases hrow with ⟨hn3, hn0, hn1⟩ | ⟨⟨⟨h30, h31⟩, h20, h21⟩, hy4, hs2, hy0, hy1⟩
      · have q3 : decide (x3 < 0) = true := decide_eq_true hn3
        subst hn0
        subst hn1
        clear hx4 hn3
        go_wp2_with fail
        go_roundg (nx.length - (j + 1))
        case measure => omega
        case rel => exact ⟨j + 1, by go_num, ⟨⟨by omega, by omega⟩⟩, ⟨(bw HW.out)⟩⟩
      · have q3 : decide (x3 < 0) = false := decide_eq_false (Int.not_lt.mpr h30)
        have p31 : (0 ≤ x3) = True := eq_true h30
        have p32 : (x3 < (list.length : Int)) = True := eq_true h31
        have p21 : (0 ≤ x2) = True := eq_true h20
        have p22 : (x2 < (claims.length : Int)) = True := eq_true h21
        have p31d : decide (0 ≤ x3) = true := decide_eq_true h30
        have p32d : decide (x3 < (list.length : Int)) = true := decide_eq_true h31
        obtain ⟨adL, eL, hL0, hL1, hL2⟩ := at_T44 (Kd.C_below HL.out.2 HW.out) x3 h30 h31
        subst eL
        generalize rd_T44 list x3 = c at hL0 hL1 hL2 hs2 hy1
        clear hx4
        go_wp2_with (first | ((with_reducible refine gate_dst (N := 9) rfl ?_); refine box_event ?hg (N := 9) ?hd (cs := #[.int .i64 0, .int .i64 0, .int .i64 0]) (t := 44) ?hr ?_; (case hd => rfl); (case hg => rfl); (case hr => first | (go_simp; done) | (go_simp; rfl)); intro gB hg w5 hbox hb; have GEB := Aside0.mk (show wr.heap.size ≤ gB from Nat.le_of_eq hg.symm); have BKB := Aside0.mk hbox; have HW5 := Aside0.mk (below_step (bw HW.out) hb); have HR5 := Aside0.mk (show Below wr.heap.size wr w5 from hb); have hz0 := (blk_cell hbox 0).trans rfl; have hz1 := (blk_cell hbox 1).trans rfl; have hz2 := (blk_cell hbox 2).trans rfl; have hf0 := blk_frozen hbox 0; have hf1 := blk_frozen hbox 1; have hf2 := blk_frozen hbox 2; clear hbox hb hg))
        clear hx0 hx1 hx2 hx3 hL0 hL1 hL2 hxN hz0 hz1 hz2 hf0 hf1 hf2
        have GE4 := Aside0.mk (Nat.le_trans HW.out.size GEB.out)
        have BK6 := Aside0.mk (blk_put (blk_put (blk_put BKB.out 0 (.int .i64 c.f0) (cs' := #[.int .i64 c.f0, .int .i64 0, .int .i64 0]) rfl) 1 (.int .i64 c.f1) (cs' := #[.int .i64 c.f0, .int .i64 c.f1, .int .i64 0]) rfl) 2 (.int .i64 c.f2) (cs' := #[.int .i64 c.f0, .int .i64 c.f1, .int .i64 c.f2]) rfl)
        have HW6 := Aside0.mk (below_set (j := 2) (v := .int .i64 c.f2) (below_set (j := 1) (v := .int .i64 c.f1) (below_set (j := 0) (v := .int .i64 c.f0) HW5.out GE4.out) GE4.out) GE4.out)
        have HR6 := Aside0.mk (below_set (j := 2) (v := .int .i64 c.f2) (below_set (j := 1) (v := .int .i64 c.f1) (below_set (j := 0) (v := .int .i64 c.f0) HR5.out GEB.out) GEB.out) GEB.out)
        clear HW5 BKB HR5
        generalize World.setCell _ ⟨gB, 2, none⟩ (.int .i64 c.f2) = w6 at BK6 HW6 HR6 ⊢
        have BK7 := Aside0.mk (blk_drew BK6.out)
        have HW7 := Aside0.mk (below_drew1 HW6.out)
        have HR7 := Aside0.mk (below_drew1 HR6.out)
        clear BK6 HW6 HR6
        have k0 := (blk_cell BK7.out 0).trans rfl
        have k1 := (blk_cell BK7.out 1).trans rfl
        have k2 := (blk_cell BK7.out 2).trans rfl
        obtain ⟨ad2, ead2, hx0, hx1, hx2, hx3⟩ := laws_FnNextClaims.cells (Kd.C_below HIX.out HR7.out) HX4.out
        obtain rfl : adx = ad2 := by injection ead2
        rw [G0.out] at hx0
        rw [G1.out] at hx1
        rw [G2.out] at hx2
        obtain ⟨adC, Ay2, cay2, eC, hyc, hyl, hyi⟩ := at_L5 (Kd.C_below HC.out.2 HW7.out) x2 h20 h21
        subst eC
        obtain ⟨ady, eady, hv0, hv1, hv2, hv3⟩ := laws_FnNextClaims.cells hyi hy4
        subst eady
        rw [hy4] at hyc
        rw [hy0] at hv0
        generalize rd (rd_L5 claims x2) 1 = y1 at hv1 hy1
        generalize hs1 : wrap64 (c.f0 + c.f1) = s1 at hs2
        have hs1' : IntKind.i64.wrap (c.f0 + c.f1) = s1 := by rw [i64_w]; exact hs1
        have hs2' : IntKind.i64.wrap (s1 - (j : Int)) = x2 := by rw [i64_w]; exact hs2
        have hy1' : IntKind.i64.wrap (y1 + c.f2) = x1 := by rw [i64_w]; exact hy1
        clear hv2 hv3 hyl hyi hy4 hy0 hx3
        refine start_ (n := 42) (S := fun w' => w'.cell? ⟨gB, 0, none⟩ = some (.int .i64 c.f0) ∧ w'.cell? ⟨gB, 1, none⟩ = some (.int .i64 c.f1) ∧ w'.cell? ⟨gB, 2, none⟩ = some (.int .i64 c.f2) ∧ w'.cell? adx = some (.int .i64 x0) ∧ w'.cell? ⟨adx.block, adx.off + 1, none⟩ = some (.int .i64 x1) ∧ w'.cell? ⟨adx.block, adx.off + 2, none⟩ = some (.int .i64 x2) ∧ w'.cell? (adC.add x2.toNat) = some (.slice (some ady) 4 cay2) ∧ w'.cell? ady = some (.int .i64 x0) ∧ w'.cell? ⟨ady.block, ady.off + 1, none⟩ = some (.int .i64 y1)) (ds := []) (bl 42 0) (by kernel_rfl) rfl (by kernel_rfl) ⟨k0, k1, k2, hx0, hx1, hx2, hyc, hv0, hv1⟩ (fun hHeld => ?_); refine with_tabW laws_FnNextClaims.tab14 laws_FnNextClaims.bits14 (fun HT_ HW_ => ?_)
        generalize World.drew w6 = w7 at BK7 HW7 HR7 k0 k1 k2 hx0 hx1 hx2 hyc hv0 hv1 hHeld ⊢
        refine pA 0 (some 69) (bl 42 1) HT_ (h := ?_)
        refine pA 2 (some 71) (bl 42 5) HT_ (h := ?_)
        refine pA 5 (some 74) (bl 42 37) HT_ (h := ?_)
        refine pA 7 (some 76) (bl 42 165) HT_ (h := ?_)
        refine pA 8 (some 77) (bl 42 421) HT_ (h := ?_)
        refine tA 1 (some 70) (bl 42 423) HT_ HW_ hHeld (h := ?_)
        refine tA 3 (some 72) (bl 42 431) HT_ HW_ hHeld (h := ?_)
        refine pA 4 (some 73) (bl 42 447) HT_ (h := ?_)
        refine pA 6 (some 75) (bl 42 511) HT_ (h := ?_)
        refine tA 9 (some 78) (bl 42 1023) HT_ HW_ hHeld (h := ?_)
        refine pA 10 (some 79) (bl 42 2047) HT_ (h := ?_)
        refine pA 11 (some 80) (bl 42 4095) HT_ (h := ?_)
        refine pA 12 (some 81) (bl 42 8191) HT_ (h := ?_)
        refine pA 13 (some 82) (bl 42 16383) HT_ (h := ?_)
        refine pA 14 (some 83) (bl 42 32767) HT_ (h := ?_)
        refine pA 20 (some 89) (bl 42 1081343) HT_ (h := ?_)
        refine pA 21 (some 90) (bl 42 3178495) HT_ (h := ?_)
        refine tA 15 (some 84) (bl 42 3211263) HT_ HW_ hHeld (h := ?_)
        refine pA 16 (some 85) (bl 42 3276799) HT_ (h := ?_)
        refine tA 17 (some 86) (bl 42 3407871) HT_ HW_ hHeld (h := ?_)
        refine pA 18 (some 87) (bl 42 3670015) HT_ (h := ?_)
        refine tA 19 (some 88) (bl 42 4194303) HT_ HW_ hHeld (h := ?_)
        refine tA 22 (some 91) (bl 42 8388607) HT_ HW_ hHeld (h := ?_)
        refine pA 23 (some 92) (bl 42 16777215) HT_ (h := ?_)
        refine pA 24 (some 93) (bl 42 33554431) HT_ (h := ?_)
        refine pA 25 (some 94) (bl 42 67108863) HT_ (h := ?_)
        refine pA 26 (some 95) (bl 42 134217727) HT_ (h := ?_)
        refine pA 27 (some 96) (bl 42 268435455) HT_ (h := ?_)
        refine pA 28 (some 97) (bl 42 536870911) HT_ (h := ?_)
        refine pA 34 (some 103) (bl 42 17716740095) HT_ (h := ?_)
        refine pA 37 (some 106) (bl 42 155155693567) HT_ (h := ?_)
        refine pA 38 (some 107) (bl 42 430033600511) HT_ (h := ?_)
        refine tA 29 (some 98) (bl 42 430570471423) HT_ HW_ hHeld (h := ?_)
        refine pA 30 (some 99) (bl 42 431644213247) HT_ (h := ?_)
        refine tA 31 (some 100) (bl 42 433791696895) HT_ HW_ hHeld (h := ?_)
        refine pA 32 (some 101) (bl 42 438086664191) HT_ (h := ?_)
        refine tA 33 (some 102) (bl 42 446676598783) HT_ HW_ hHeld (h := ?_)
        refine tA 35 (some 104) (bl 42 481036337151) HT_ HW_ hHeld (h := ?_)
        refine pA 36 (some 105) (bl 42 549755813887) HT_ (h := ?_)
        refine tA 39 (some 108) (bl 42 1099511627775) HT_ HW_ hHeld (h := ?_)
        refine pA 40 (some 109) (bl 42 2199023255551) HT_ (h := ?_)
        refine pA 41 (some 110) (bl 42 4398046511103) HT_ (h := ?_)
        refine done_ (done_of HT_.out (by kernel_rfl)) ?_
        go_wp2_with fail
        go_roundg (nx.length - (j + 1))
        case measure => omega
        case rel => exact ⟨j + 1, by go_num, ⟨⟨by omega, by omega⟩⟩, ⟨(bw HW7.out)⟩⟩
    · have hje : j = nx.length := by omega
      subst hje
      have q1 : decide ((nx.length : Int) < (nx.length : Int)) = false := decide_eq_false (by omega)
      have q1' : decide (nx.length < nx.length) = false := decide_eq_false (by omega)
      have q2 : (nx.length < nx.length) = False := eq_false (by omega)
      go_wp2_with fail
      go_ret
      have HZ := Aside0.mk (below_step HB.out HW.out)
      exact ⟨fe, (bw HZ.out)⟩
/-- THE ONE PURE STATEMENT of laws_FnNextClaims: yours. -/
def laws_FnNextClaims.Pure : Prop := ∀ (l0 : List Int), l0.length ≤ maxLen → l0.length * 1 ≤ 140737488351232 → (∀ x ∈ l0, (Lit.int .u8 x).wf = true) → ∃ k, laws_FnNextClaims.f k l0 = some true
theorem laws_FnNextClaims.walk (P : laws_FnNextClaims.Pure) (a0 : Option Addr) (len0 cap0 : Nat) (z0 : List Int) (w : World) (w0 : (a0 = none ∧ len0 = 0 ∧ cap0 = 0 ∧ z0 = []) ∨ ∃ x, a0 = some x ∧ len0 ≤ cap0 ∧ cap0 ≤ maxLen ∧ z0.length = cap0 ∧ (∀ i, i < z0.length → w.cell? (x.add i) = some (.int .u8 (z0.getD i 0))) ∧ ∀ n ∈ z0, (Lit.int .u8 n).wf = true) (y0 : len0 * 1 ≤ 140737488351232) :
  Calls Try.prog 11 #[.slice a0 len0 cap0] w fun e w' => e = .returned (.bool true) ∧ Below w.heap.size w w' := by
 obtain ⟨l0, rfl, hr0, hm0, hw0, hc0⟩ := ReadsInt.ofRowC w0
 obtain ⟨k, h⟩ := P l0 hm0 y0 hw0
 refine (laws_FnNextClaims.calls k _ _ l0 true w (Kd.C_of_reads (d := (0 : Int)) (h1 := fun _ => rfl) hr0) hc0 h).mono ?_
 rintro e w' ⟨rfl, hd⟩
 exact ⟨rfl, hd⟩

end Go.Proofs.Ytegnghbgkiddoaa.PA
