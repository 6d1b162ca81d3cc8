-- Laid by this session's own program (pr.py) over the translation; Lean checks it.
import Derived.Test.YtnppflmjlnfhpaaPA0
import Derived.Test.YtnppflmjlnfhpaaPA1
import Derived.Test.YtnppflmjlnfhpaaHSlot
namespace Go.Proofs.Ytnppflmjlnfhpaa.PA
open Go.RowKit Go.Proofs.YtnppflmjlnfhpaaW.PrintWords Go.Proofs.YtnppflmjlnfhpaaW.PrintLast Go.Proofs.YtnppflmjlnfhpaaW.PrintMore
attribute [local go_sem] max2_int min2_int max_two min_two max_three min_three max_four min_four   -- for this text's walks alone
set_option linter.unusedVariables false
set_option linter.unusedSimpArgs false

/-! ### spec_RunTalk: function 11 -/
-- IMPORT HSlot
def spec_RunTalk.inB (a b c : Int) : Bool := decide (b ≤ a ∧ a ≤ c)
def spec_RunTalk.b1 (l0 : List Int) : Bool := decide ((l0.length : Int) ≤ 6) && l0.all (fun n => decide (0 ≤ n ∧ n ≤ 9))
def spec_RunTalk.b3 (l1 : List Int) : Bool := l1.all (fun n => decide (0 ≤ n ∧ n ≤ 1000))
def spec_RunTalk.fin (l0 l1 : List Int) (a2 : Int) : Sk.Sp := Sk.run l0.length a2.toNat ⟨[], 0, 0, l0, List.replicate l0.length 0, List.replicate l0.length 0, l1⟩
def spec_RunTalk.f (l0 : List Int) (l1 : List Int) (a2 : Int) : Option (List Int × Int × Int × Bool × Bool) := if spec_RunTalk.b1 l0 = true ∧ (l1.length : Int) ≤ 200 ∧ spec_RunTalk.b3 l1 = true ∧ spec_RunTalk.inB a2 0 2000 = true then some ((spec_RunTalk.fin l0 l1 a2).order, (spec_RunTalk.fin l0 l1 a2).hits, (spec_RunTalk.fin l0 l1 a2).slots, decide ((spec_RunTalk.fin l0 l1 a2).qs.sum = 0), true) else some (([] : List Int), 0, 0, false, false)
def spec_RunTalk.T9 : Bool × List (List Nat × List Nat) := (true, [([], []), ([], []), ([0, 1], [0, 1]), ([], []), ([3, 3], [3]), ([], []), ([5, 5], [5]), ([], []), ([], []), ([8], [8]), ([2, 4, 6, 7, 9], [2, 4, 6, 7, 9]), ([10], [10]), ([11, 2, 0, 1, 2, 3, 4, 5, 6, 7, 8, 9, 10, 11], [11])])
def spec_RunTalk.B9 : List Nat := [0, 0, 3, 0, 8, 0, 32, 0, 0, 256, 1023, 2047, 4095]
theorem spec_RunTalk.tab9 : rtab .any (opsOf Try.f11 9) = spec_RunTalk.T9 := by kernel_rfl
theorem spec_RunTalk.bits9 : waitsOk spec_RunTalk.T9.2 spec_RunTalk.B9 = true := by kernel_rfl
def spec_RunTalk.s.T9 : Bool × List (List Nat × List Nat) := (true, [([], []), ([0], [0]), ([1], [1]), ([2], [2]), ([], []), ([], []), ([5], [5]), ([6], [6]), ([7], [7]), ([], []), ([8, 9], [8, 9]), ([10], [10]), ([11], [11]), ([3, 4, 0, 1, 2, 3, 4, 5, 6, 7, 8, 9, 10, 11, 12], [3, 4]), ([13, 12, 0, 1, 2, 3, 4, 5, 6, 7, 8, 9, 10, 11, 12], [12, 13])])
def spec_RunTalk.s.B9 : List Nat := [0, 1, 3, 7, 0, 0, 32, 96, 224, 0, 992, 2016, 4064, 8191, 16383]
theorem spec_RunTalk.s.tab9 : rtab .any (opsOf Try.f37 9) = spec_RunTalk.s.T9 := by kernel_rfl
theorem spec_RunTalk.s.bits9 : waitsOk spec_RunTalk.s.T9.2 spec_RunTalk.s.B9 = true := by kernel_rfl
def spec_RunTalk.s.T18 : Bool × List (List Nat × List Nat) := (true, [([], []), ([0], [0]), ([1], [1]), ([2], [2]), ([], []), ([], []), ([5], [5]), ([6], [6]), ([7], [7]), ([], []), ([8, 9], [8, 9]), ([10], [10]), ([11], [11]), ([3, 4, 0, 1, 2, 3, 4, 5, 6, 7, 8, 9, 10, 11, 12], [3, 4]), ([13, 12, 0, 1, 2, 3, 4, 5, 6, 7, 8, 9, 10, 11, 12], [12, 13])])
def spec_RunTalk.s.B18 : List Nat := [0, 1, 3, 7, 0, 0, 32, 96, 224, 0, 992, 2016, 4064, 8191, 16383]
theorem spec_RunTalk.s.tab18 : rtab .any (opsOf Try.f37 18) = spec_RunTalk.s.T18 := by kernel_rfl
theorem spec_RunTalk.s.bits18 : waitsOk spec_RunTalk.s.T18.2 spec_RunTalk.s.B18 = true := by kernel_rfl
def spec_RunTalk.s.T19 : Bool × List (List Nat × List Nat) := (true, [([], []), ([0], [0]), ([1], [1]), ([2], [2]), ([], []), ([], []), ([5], [5]), ([6], [6]), ([7], [7]), ([], []), ([8, 9], [8, 9]), ([10], [10]), ([], []), ([], []), ([12, 13], [12, 13]), ([11, 14, 14], [11, 14]), ([3, 4, 0, 1, 2, 3, 4, 5, 6, 7, 8, 9, 10, 11, 12, 13, 14, 15], [3, 4]), ([16, 15, 15, 0, 1, 2, 3, 4, 5, 6, 7, 8, 9, 10, 11, 12, 13, 14, 15], [15, 16])])
def spec_RunTalk.s.B19 : List Nat := [0, 1, 3, 7, 0, 0, 32, 96, 224, 0, 992, 2016, 0, 0, 12288, 32736, 65535, 131071]
theorem spec_RunTalk.s.tab19 : rtab .any (opsOf Try.f37 19) = spec_RunTalk.s.T19 := by kernel_rfl
theorem spec_RunTalk.s.bits19 : waitsOk spec_RunTalk.s.T19.2 spec_RunTalk.s.B19 = true := by kernel_rfl
def spec_RunTalk.s.T24 : Bool × List (List Nat × List Nat) := (true, [([], []), ([0], [0]), ([1], [1]), ([2], [2]), ([], []), ([], []), ([5], [5]), ([6], [6]), ([7], [7]), ([], []), ([8, 9], [8, 9]), ([10], [10]), ([11], [11]), ([3, 4, 0, 1, 2, 3, 4, 5, 6, 7, 8, 9, 10, 11, 12], [3, 4]), ([13, 12, 0, 1, 2, 3, 4, 5, 6, 7, 8, 9, 10, 11, 12], [12, 13])])
def spec_RunTalk.s.B24 : List Nat := [0, 1, 3, 7, 0, 0, 32, 96, 224, 0, 992, 2016, 4064, 8191, 16383]
theorem spec_RunTalk.s.tab24 : rtab .any (opsOf Try.f37 24) = spec_RunTalk.s.T24 := by kernel_rfl
theorem spec_RunTalk.s.bits24 : waitsOk spec_RunTalk.s.T24.2 spec_RunTalk.s.B24 = true := by kernel_rfl
set_option maxHeartbeats 16000000 in
set_option maxRecDepth 100000 in
theorem spec_RunTalk.slot {w W : World} {gT gq gw gt cq cw ct n : Nat} {s : Sk.Sp} {vo : Value} {Ad : Option Addr} {cd : Nat} (h : Sk.Fc w W gT gq gw gt cq cw ct n s vo Ad cd) (hI : Sk.Inv n s) (hs : s.slots < 2000) (hn : 1 ≤ n) :
  Calls Try.prog 37 #[.pointer (some ⟨gT, 0, none⟩)] W fun e W' => e = .returned (.tuple #[]) ∧ ∃ vo' Ad' cd', Sk.Fc w W' gT gq gw gt cq cw ct n (Sk.slot n s) vo' Ad' cd' := by
 have HF := Aside0.mk h
 have HI := Aside0.mk hI
 have hn6 := hI.n6
 have HB0 := Aside0.mk (Below.refl W.heap.size W)
 have k5 := h.flds.2.2.2.2.2.1
 clear h hI
 go_enter Try.func37, Try.ntmps37
 go_wp2_with (first | ((with_reducible refine gate_dst (N := 9) rfl ?_); refine Kd.R_lit (Kd.int .i64) _ 3 ?hg (N := 9) ?hd (xs := ([] : List Int)) (inner := []) (ok := fun _ => True) (okp := fun _ => True) ?hr ?hp (fun _ hk => hk) trivial (Below.refl _ _) (Nat.le_refl _) (by simp) ?_; (case hd => rfl); (case hg => rfl); (case hr => first | (go_simp; done) | (go_simp; rfl)); (case hp => exact (Reps.none _ _)); intro v9 w1 ho hb hg_ hnew_; clear hg_ hnew_; have HN1 := Aside0.mk (show Kd.R (Kd.int .i64) 3 w1 W.heap.size (fun _ => True) v9 ([] : List Int) from ho); have HB1 := Aside0.mk hb; have k5 := (HF.out.below hb).flds.2.2.2.2.2.1; clear ho hb HB0) | ((with_reducible refine gate_dst (N := 10) rfl ?_); refine Kd.R_lit (Kd.int .i64) _ 3 ?hg (N := 10) ?hd (xs := ([] : List Int)) (inner := []) (ok := fun _ => True) (okp := fun _ => True) ?hr ?hp (fun _ hk => hk) trivial (Below.refl _ _) (Nat.le_refl _) (by simp) ?_; (case hd => rfl); (case hg => rfl); (case hr => first | (go_simp; done) | (go_simp; rfl)); (case hp => exact (Reps.none _ _)); intro v10 w2 ho hb hg_ hnew_; clear hg_ hnew_; have HN2 := Aside0.mk (Kd.R_elder HN1.out ho hb); have HO2 := Aside0.mk (Kd.R_lower (Kd.R_newR ho HN1.out) (below_size HB1.out)); have HB2 := Aside0.mk (below_step HB1.out hb); have k5 := (HF.out.below (below_step HB1.out hb)).flds.2.2.2.2.2.1; clear ho hb HN1 HB1; obtain ⟨A10, c10, e10⟩ := Kd.R_slice HO2.out; subst e10; obtain ⟨A9, c9, e9⟩ := Kd.R_slice HN2.out; subst e9) | ((with_reducible refine gate_builtin (b := .append) (xs := #[.tmp 10, .tmp 14]) rfl ?_); at_builtin; refine Kd.R_append_rows (Kd.int .i64) (w0 := W) W.heap.size rfl (.tmp 10) (.tmp 14) 23 3 (.int .i64 0) 8 rfl Try.underlying23 info3 rfl (by decide) (by omega) (.slice A10 ([] : List Int).length c10) [] s.ws (some ⟨gw, 0, none⟩) n cw (fun k_ => some k_ ≠ (Value.slice A9 ([] : List Int).length c9).ownBlock) (fun _ => False) rfl rfl (Kd.R_mono HO2.out (fun _ hk => hk.2)) (by have h_ := HF.out.below HB2.out; have h2_ := (Kd.R_reads' h_.rw_).2.2; rw [h_.lens.2.1] at h2_; exact h2_) (fun _ _ h => h) (fun _ h => h.elim) (fun k_ hk => Kd.fresh' (Kd.R_lt HN2.out) k_ hk) HB2.out (below_size HB2.out) (by simp only [List.length_nil]; omega) ?_; intro v3 w3 ho hb hg hat; rw [List.nil_append] at ho; have HO3 := Aside0.mk ho; have HN3 := Aside0.mk (Kd.R_mono (Kd.R_after (ok := fun _ => True) (v := (.slice A10 ([] : List Int).length c10)) (v1 := v3) (Kd.R_mono HN2.out (fun _ hk => ⟨trivial, hk.2⟩)) hg hat) (fun _ hk => hk.2)); have HB3 := Aside0.mk hb; clear ho hb hg hat HN2 HO2 HB2))
 obtain ⟨A3, c3, e3⟩ := Kd.R_slice HO3.out
 rw [HF.out.lens.2.1] at e3
 subst e3
 clear k5
 go_loopg [2, 4] n (fun kq v2 v4 wr => ∃ j : Nat, v4 = .int .i64 (j : Int) ∧ Aside0 (j ≤ n ∧ n - j ≤ kq) ∧ Aside0 (Kd.R (Kd.int .i64) 3 wr W.heap.size (fun k_ => some k_ ≠ (Value.slice A3 n c3).ownBlock) v2 (Sk.now s.qs s.ws j)) ∧ Aside0 (Kd.R (Kd.int .i64) 3 wr W.heap.size (fun k_ => some k_ ≠ (v2 : Value).ownBlock) (.slice A3 n c3) s.ws) ∧ Aside0 (Below W.heap.size W wr))
 case atStart => exact ⟨0, rfl, ⟨⟨Nat.zero_le _, by omega⟩⟩, ⟨(by (with_reducible repeat (first | apply Kd.R_alloc | apply Kd.R_drewN | apply Kd.R_drew)); exact HN3.out)⟩, ⟨(by (with_reducible repeat (first | apply Kd.R_alloc | apply Kd.R_drewN | apply Kd.R_drew)); exact HO3.out)⟩, ⟨(by repeat (first | (with_reducible first | exact HB3.out | apply below_alloc | apply pw_below_drewN | apply below_drew1) | exact HB3.out))⟩⟩
 case round =>
  clear HN3 HO3 HB3
  obtain ⟨j, rfl, HJ, HN, HO, HB⟩ := hrel
  have hj := HJ.out
  have hf := HF.out.below HB.out
  have k4 := hf.flds.2.2.2.2.1
  have k5 := hf.flds.2.2.2.2.2.1
  by_cases hlt : j < n
  ·have kq := (hf.cq_ j hlt).1
   have kw := (hf.cw_ j hlt).1
   have hNl := Sk.now_len s.qs s.ws j
   have HNL := Aside0.mk hNl
   have hns : Sk.now s.qs s.ws (j + 1) = Sk.now s.qs s.ws j ++ (if Sk.nowP (s.qs.getD j 0) (s.ws.getD j 0) = true then [(j : Int)] else []) := rfl
   have HNS := Aside0.mk hns
   clear hns hNl hf
   generalize s.qs.getD j 0 = q at kq HNS
   generalize s.ws.getD j 0 = u at kw HNS
   generalize Sk.now s.qs s.ws j = nj at HN HNL HNS
   obtain ⟨A2, c2, e2⟩ := Kd.R_slice HN.out
   subst e2
   have q1 : decide ((j : Int) < (n : Int)) = true := decide_eq_true (by omega)
   have q1' : decide (j < n) = true := decide_eq_true hlt
   have q2 : (j < n) = True := eq_true hlt
   by_cases hq : 0 < q
   ·have q3 : decide (q > 0) = true := decide_eq_true hq
    have q3' : decide (0 < q) = true := decide_eq_true hq
    by_cases hu : u = 0
    ·subst hu
     have eP : Sk.nowP q 0 = true := by unfold Sk.nowP; rw [q3']; rfl
     rw [eP, if_pos rfl] at HNS
     go_wp2_with (first | ((with_reducible refine gate_builtin (b := .append) (xs := #[.tmp 43, .tmp 45]) rfl ?_); at_builtin; refine Kd.R_append (Kd.int .i64) (w0 := W) W.heap.size rfl (.tmp 43) (.tmp 45) 23 3 (.int .i64 0) 8 rfl Try.underlying23 info3 rfl (by decide) (by omega) (.slice A2 nj.length c2) nj (j : Int) [.int .i64 (j : Int)] (fun k_ => some k_ ≠ (Value.slice A3 n c3).ownBlock) (fun _ => False) rfl (by first | (go_simp; done) | (go_simp; rfl)) rfl (fun _ h => h.elim) (fun k_ hk => Kd.fresh' (Kd.R_lt (by (with_reducible repeat (first | apply Kd.R_alloc | apply Kd.R_drewN | apply Kd.R_drew)); exact HO.out)) k_ hk) (by (with_reducible repeat (first | apply Kd.R_alloc | apply Kd.R_drewN | apply Kd.R_drew)); exact HN.out) (by repeat (first | (with_reducible first | exact HB.out | apply below_alloc | apply pw_below_drewN | apply below_drew1) | exact HB.out)) (below_size (by repeat (first | (with_reducible first | exact HB.out | apply below_alloc | apply pw_below_drewN | apply below_drew1) | exact HB.out))) (by have := HNL.out; omega) ?_; intro v1 w4 ho hb hg hat; have HM3 := Aside0.mk ho; have HB4 := Aside0.mk hb; have HO3 := Aside0.mk (Kd.R_mono (Kd.R_after (ok := fun _ => True) (v := (.slice A2 nj.length c2)) (v1 := v1) (Kd.R_mono (by (with_reducible repeat (first | apply Kd.R_alloc | apply Kd.R_drewN | apply Kd.R_drew)); exact HO.out) (fun _ hk => ⟨trivial, hk⟩)) hg hat) (fun _ hk => hk.2)); clear ho hb hg hat))
     go_roundg (n - (j + 1))
     case measure => omega
     case rel => exact ⟨j + 1, by go_num, ⟨⟨by omega, by omega⟩⟩, ⟨by rw [HNS.out]; exact HM3.out⟩, HO3, ⟨(by repeat (first | (with_reducible first | exact HB4.out | apply below_alloc | apply pw_below_drewN | apply below_drew1) | exact HB4.out))⟩⟩
    ·have q4 : (u == 0) = false := beq_eq_false_iff_ne.mpr hu
     have eP : Sk.nowP q u = false := by unfold Sk.nowP; rw [decide_eq_false hu, Bool.and_false]
     rw [eP, if_neg (by decide), List.append_nil] at HNS
     go_wp2_with fail
     go_roundg (n - (j + 1))
     case measure => omega
     case rel => exact ⟨j + 1, by go_num, ⟨⟨by omega, by omega⟩⟩, ⟨by rw [HNS.out]; exact (by (with_reducible repeat (first | apply Kd.R_alloc | apply Kd.R_drewN | apply Kd.R_drew)); exact HN.out)⟩, ⟨(by (with_reducible repeat (first | apply Kd.R_alloc | apply Kd.R_drewN | apply Kd.R_drew)); exact HO.out)⟩, ⟨(by repeat (first | (with_reducible first | exact HB.out | apply below_alloc | apply pw_below_drewN | apply below_drew1) | exact HB.out))⟩⟩
   ·have q3 : decide (q > 0) = false := decide_eq_false hq
    have q3' : decide (0 < q) = false := decide_eq_false hq
    have eP : Sk.nowP q u = false := by unfold Sk.nowP; rw [q3']; rfl
    rw [eP, if_neg (by decide), List.append_nil] at HNS
    go_wp2_with fail
    go_roundg (n - (j + 1))
    case measure => omega
    case rel => exact ⟨j + 1, by go_num, ⟨⟨by omega, by omega⟩⟩, ⟨by rw [HNS.out]; exact (by (with_reducible repeat (first | apply Kd.R_alloc | apply Kd.R_drewN | apply Kd.R_drew)); exact HN.out)⟩, ⟨(by (with_reducible repeat (first | apply Kd.R_alloc | apply Kd.R_drewN | apply Kd.R_drew)); exact HO.out)⟩, ⟨(by repeat (first | (with_reducible first | exact HB.out | apply below_alloc | apply pw_below_drewN | apply below_drew1) | exact HB.out))⟩⟩
  ·have hje : n = j := by omega
   subst hje
   have DN := Aside0.mk (Kd.R_mono (Kd.R_bound HN.out) (fun k_ hk_ => (hk_.2.1 : W.heap.size ≤ k_)))
   have DO := Aside0.mk (Kd.R_mono (Kd.R_bound HO.out) (fun k_ hk_ => (hk_.2.1 : W.heap.size ≤ k_)))
   have HX := Aside0.mk hf
   have LTS := Aside0.mk (show gq < W.heap.size ∧ gw < W.heap.size ∧ gt < W.heap.size ∧ gT < W.heap.size from ⟨Kd.R_lt HF.out.rq gq rfl, Kd.R_lt HF.out.rw_ gw rfl, Kd.R_lt HF.out.rt gt rfl, blk_lt HF.out.blk⟩)
   have LTO := Aside0.mk (show ∀ k, vo.ownBlock = some k → k < W.heap.size from Kd.R_lt HF.out.ro)
   have hmid := Sk.mid_def n s _ rfl
   have hmin := Sk.mid_in HI.out
   have hnS := fun k hk => Sk.now_nat (qs := s.qs) (ws := s.ws) (n := n) k hk
   have hlS := Sk.now_len s.qs s.ws n
   have HMID := Aside0.mk hmid
   have HMIN := Aside0.mk hmin
   have HNS := Aside0.mk hnS
   clear hmid hmin hnS HN HO HB hf k4 k5 HF
   generalize Sk.now s.qs s.ws n = S at DN HMID HNS hlS
   obtain ⟨A2, c2, e2⟩ := Kd.R_slice DN.out
   subst e2
   obtain ⟨go, cgo, ego, _, _, _, _⟩ := Kd.R_form DO.out (by rw [HX.out.lens.2.1]; omega)
   injection ego with ego1 ego2 ego3
   subst ego1
   clear ego2 ego3
   have q1 : decide ((n : Int) < (n : Int)) = false := decide_eq_false (by omega)
   have q2 : (n < n) = False := eq_false (by omega)
   have k4 := HX.out.flds.2.2.2.2.1
   by_cases cS1 : S.length = 1
   ·rw [if_pos cS1] at HMID
    obtain ⟨k, rfl⟩ : ∃ k, S = [k] := List.length_eq_one_iff.1 cS1
    obtain ⟨i, rfl, hil⟩ := HNS.out k (by simp)
    have hm2 : Sk.mid n s = { s with qs := s.qs.set i (s.qs.getD i 0 - 1), tr := s.tr.set i 0, order := s.order ++ [(i : Int)] } := HMID.out
    clear HMID
    have HMID := Aside0.mk hm2
    clear hm2 hlS cS1
    obtain ⟨gs, cs', es, _, _, _, _⟩ := Kd.R_form DN.out (by simp)
    injection es with es1 es2 es3
    subst es1
    clear es2 es3
    have hs0 : wr.cell? ⟨gs, 0, none⟩ = some (.int .i64 (i : Int)) := (Kd.R_celln 0 DN.out 0 (by omega) (by simp)).1
    have hin := HI.out.ins
    have hbq := hin.q i (by rw [hin.lq]; exact hil)
    have hsl := HI.out.sl
    have HXd := Aside0.mk HX.out.drew
    have DOd := Aside0.mk (Kd.R_drew DO.out)
    have kd4 := HXd.out.flds.2.2.2.2.1
    have kq := HXd.out.cq_ i hil
    generalize hqq : s.qs.getD i 0 = x at hbq kq HMID
    have kq1 := kq.1
    have kq2 := kq.2
    have e1 : wrap64 (x - 1) = x - 1 := by unfold wrap64; omega
    have e2 : IntKind.i64.wrap (x - 1) = x - 1 := by rw [IntKind.wrap_i64]; omega
    have q7 : (i < n) = True := eq_true hil
    clear kq hqq hbq hin HX DO
    go_wp2_with fail
    refine start_ (n := 15) (S := fun w' => w'.cell? ⟨gT, 4, none⟩ = some (.slice (some ⟨gq, 0, none⟩) n cq) ∧ w'.cell? ⟨gq, i, none⟩ = some (.int .i64 x)) (ds := [14]) #[false, false, false, false, false, false, false, false, false, false, false, false, false, false, false] (by kernel_rfl) rfl rfl ⟨kd4, kq1⟩ (fun hHeld => ?_); refine with_tabW spec_RunTalk.s.tab9 spec_RunTalk.s.bits9 (fun HT_ HW_ => ?_)
    generalize World.drew _ = w20 at HXd DOd kd4 kq1 kq2 hHeld ⊢
    refine pure_ (i := 0) (N := some 53) (v := ?_) (a' := ?_) #[true, false, false, false, false, false, false, false, false, false, false, false, false, false, false] rfl rfl (any_of HT_.out (by kernel_rfl)) (fun _ _ _ h => h) (Or.inl ⟨by rfl, ?_⟩) ?_ ?_
    rotate_left
    ·intro w'
     go_simp
     with_reducible rfl
    rotate_left
    ·simp only [Act.put, List.setIfInBounds_toArray, List.set_cons_zero, List.set_cons_succ, i64_w, i32_w]
     rfl
    refine pure_ (i := 1) (N := some 54) (v := ?_) (a' := ?_) #[true, true, false, false, false, false, false, false, false, false, false, false, false, false, false] rfl rfl (any_of HT_.out (by kernel_rfl)) (fun _ _ _ h => h) (Or.inl ⟨by rfl, ?_⟩) ?_ ?_
    rotate_left
    ·intro w'
     go_simp
     with_reducible rfl
    rotate_left
    ·simp only [Act.put, List.setIfInBounds_toArray, List.set_cons_zero, List.set_cons_succ, i64_w, i32_w]
     rfl
    refine pure_ (i := 2) (N := some 55) (v := ?_) (a' := ?_) #[true, true, true, false, false, false, false, false, false, false, false, false, false, false, false] rfl rfl (any_of HT_.out (by kernel_rfl)) (fun _ _ _ h => h) (Or.inl ⟨by rfl, ?_⟩) ?_ ?_
    rotate_left
    ·intro w'
     go_simp
     with_reducible rfl
    rotate_left
    ·simp only [Act.put, List.setIfInBounds_toArray, List.set_cons_zero, List.set_cons_succ, i64_w, i32_w]
     rfl
    refine pure_ (i := 4) (N := some 57) (v := ?_) (a' := ?_) #[true, true, true, false, true, false, false, false, false, false, false, false, false, false, false] rfl rfl (any_of HT_.out (by kernel_rfl)) (fun _ _ _ h => h) (Or.inl ⟨by rfl, ?_⟩) ?_ ?_
    rotate_left
    ·intro w'
     go_simp
     with_reducible rfl
    rotate_left
    ·simp only [Act.put, List.setIfInBounds_toArray, List.set_cons_zero, List.set_cons_succ, i64_w, i32_w]
     rfl
    refine pure_ (i := 5) (N := some 58) (v := ?_) (a' := ?_) #[true, true, true, false, true, true, false, false, false, false, false, false, false, false, false] rfl rfl (any_of HT_.out (by kernel_rfl)) (fun _ _ _ h => h) (Or.inl ⟨by rfl, ?_⟩) ?_ ?_
    rotate_left
    ·intro w'
     go_simp
     with_reducible rfl
    rotate_left
    ·simp only [Act.put, List.setIfInBounds_toArray, List.set_cons_zero, List.set_cons_succ, i64_w, i32_w]
     rfl
    refine pure_ (i := 6) (N := some 59) (v := ?_) (a' := ?_) #[true, true, true, false, true, true, true, false, false, false, false, false, false, false, false] rfl rfl (any_of HT_.out (by kernel_rfl)) (fun _ _ _ h => h) (Or.inl ⟨by rfl, ?_⟩) ?_ ?_
    rotate_left
    ·intro w'
     go_simp
     with_reducible rfl
    rotate_left
    ·simp only [Act.put, List.setIfInBounds_toArray, List.set_cons_zero, List.set_cons_succ, i64_w, i32_w]
     rfl
    refine pure_ (i := 7) (N := some 60) (v := ?_) (a' := ?_) #[true, true, true, false, true, true, true, true, false, false, false, false, false, false, false] rfl rfl (any_of HT_.out (by kernel_rfl)) (fun _ _ _ h => h) (Or.inl ⟨by rfl, ?_⟩) ?_ ?_
    rotate_left
    ·intro w'
     go_simp
     with_reducible rfl
    rotate_left
    ·simp only [Act.put, List.setIfInBounds_toArray, List.set_cons_zero, List.set_cons_succ, i64_w, i32_w]
     rfl
    refine pure_ (i := 9) (N := some 62) (v := ?_) (a' := ?_) #[true, true, true, false, true, true, true, true, false, true, false, false, false, false, false] rfl rfl (any_of HT_.out (by kernel_rfl)) (fun _ _ _ h => h) (Or.inl ⟨by rfl, ?_⟩) ?_ ?_
    rotate_left
    ·intro w'
     go_simp
     with_reducible rfl
    rotate_left
    ·simp only [Act.put, List.setIfInBounds_toArray, List.set_cons_zero, List.set_cons_succ, i64_w, i32_w]
     rfl
    refine take_ (i := 3) (N := some 56) (v := ?_) (a' := ?_) #[true, true, true, true, true, true, true, true, false, true, false, false, false, false, false] rfl rfl (take_ofW HT_.out HW_.out (by kernel_rfl)) (fun _ _ _ h => h) (Or.inl ⟨by rfl, ?_⟩) hHeld ?_ ?_
    rotate_left
    ·rintro w' ⟨s0, s1⟩
     go_simp
     with_reducible rfl
    rotate_left
    ·simp only [Act.put, List.setIfInBounds_toArray, List.set_cons_zero, List.set_cons_succ, i64_w, i32_w]
     rfl
    refine take_ (i := 8) (N := some 61) (v := ?_) (a' := ?_) #[true, true, true, true, true, true, true, true, true, true, false, false, false, false, false] rfl rfl (take_ofW HT_.out HW_.out (by kernel_rfl)) (fun _ _ _ h => h) (Or.inl ⟨by rfl, ?_⟩) hHeld ?_ ?_
    rotate_left
    ·rintro w' ⟨s0, s1⟩
     go_simp
     with_reducible rfl
    rotate_left
    ·simp only [Act.put, List.setIfInBounds_toArray, List.set_cons_zero, List.set_cons_succ, i64_w, i32_w]
     rfl
    refine pure_ (i := 10) (N := some 63) (v := ?_) (a' := ?_) #[true, true, true, true, true, true, true, true, true, true, true, false, false, false, false] rfl rfl (any_of HT_.out (by kernel_rfl)) (fun _ _ _ h => h) (Or.inl ⟨by rfl, ?_⟩) ?_ ?_
    rotate_left
    ·intro w'
     go_simp
     with_reducible rfl
    rotate_left
    ·simp only [Act.put, List.setIfInBounds_toArray, List.set_cons_zero, List.set_cons_succ, i64_w, i32_w]
     rfl
    refine take_ (i := 11) (N := some 64) (v := ?_) (a' := ?_) #[true, true, true, true, true, true, true, true, true, true, true, true, false, false, false] rfl rfl (take_ofW HT_.out HW_.out (by kernel_rfl)) (fun _ _ _ h => h) (Or.inl ⟨by rfl, ?_⟩) hHeld ?_ ?_
    rotate_left
    ·rintro w' ⟨s0, s1⟩
     go_simp
     with_reducible rfl
    rotate_left
    ·simp only [Act.put, List.setIfInBounds_toArray, List.set_cons_zero, List.set_cons_succ, i64_w, i32_w]
     rfl
    refine pure_ (i := 12) (N := some 65) (v := ?_) (a' := ?_) #[true, true, true, true, true, true, true, true, true, true, true, true, true, false, false] rfl rfl (any_of HT_.out (by kernel_rfl)) (fun _ _ _ h => h) (Or.inl ⟨by rfl, ?_⟩) ?_ ?_
    rotate_left
    ·intro w'
     go_simp
     with_reducible rfl
    rotate_left
    ·simp only [Act.put, List.setIfInBounds_toArray, List.set_cons_zero, List.set_cons_succ, i64_w, i32_w]
     rfl
    refine pure_ (i := 13) (N := some 66) (v := ?_) (a' := ?_) #[true, true, true, true, true, true, true, true, true, true, true, true, true, true, false] rfl rfl (any_of HT_.out (by kernel_rfl)) (fun _ _ _ h => h) (Or.inl ⟨by rfl, ?_⟩) ?_ ?_
    rotate_left
    ·intro w'
     go_simp
     with_reducible rfl
    rotate_left
    ·simp only [Act.put, List.setIfInBounds_toArray, List.set_cons_zero, List.set_cons_succ, i64_w, i32_w]
     rfl
    refine last_ (i := 14) (N := none) #[true, true, true, true, true, true, true, true, true, true, true, true, true, true, true] rfl rfl (one_of HT_.out (by kernel_rfl)) (by decide) (fun K hK => ?_)
    refine skip_ (w1 := ?_) (by rfl) rfl ?_ ?_
    rotate_left
    ·go_simp
     rfl
    refine hK.out _ _ ?_
    clear hK K
    refine done_ (done_of HT_.out (by kernel_rfl)) ?_
    have HX2 := Aside0.mk (HXd.out.setq i (x - 1))
    have DO2 := Aside0.mk (Kd.R_far (p := ⟨gq, i, none⟩) DOd.out (fun k hk => fun e => by have h_ : gq < W.heap.size := LTS.out.1; rw [e] at hk; exact Nat.lt_irrefl _ (Nat.lt_of_lt_of_le h_ hk)) (.int .i64 (x - 1)))
    clear HXd DOd kd4 kq1 kq2 k4 hs0 e1 e2
    generalize World.setCell _ ⟨gq, i, none⟩ (.int .i64 (x - 1)) = w21 at HX2 DO2 ⊢
    have k6 := HX2.out.flds.2.2.2.2.2.2.1
    have kt := HX2.out.ct_ i hil
    have kt1 := kt.1
    have kt2 := kt.2
    obtain ⟨Ao, co, eo⟩ := Kd.R_slice HX2.out.ro
    subst eo
    have k0 : (w21.setCell ⟨gt, i, none⟩ (.int .i64 0)).cell? ⟨gT, 0, none⟩ = some (.slice Ao s.order.length co) := (HX2.out.sett i 0).flds.1
    have HX3 := Aside0.mk (HX2.out.sett i 0)
    have DO3 := Aside0.mk (Kd.R_far (p := ⟨gt, i, none⟩) DO2.out (fun k hk => fun e => by have h_ : gt < W.heap.size := LTS.out.2.2.1; rw [e] at hk; exact Nat.lt_irrefl _ (Nat.lt_of_lt_of_le h_ hk)) (.int .i64 0))
    clear kt
    have hod := HI.out.od
    have LTO2 := LTO
    go_wp2_with (first | ((with_reducible refine gate_builtin (b := .append) (xs := #[.tmp 78, .tmp 80]) rfl ?_); at_builtin; refine Kd.R_append (Kd.int .i64) (w0 := w) w.heap.size rfl (.tmp 78) (.tmp 80) 23 3 (.int .i64 0) 8 rfl Try.underlying23 info3 rfl (by decide) (by omega) (.slice Ao s.order.length co) s.order (i : Int) [.int .i64 (i : Int)] (fun k => k ≠ gq ∧ k ≠ gw ∧ k ≠ gt) (fun _ => False) rfl (by first | (go_simp; done) | (go_simp; rfl)) rfl (fun _ h => h.elim) (fun k hk => ⟨fun e => by have h_ := HX3.out.typ.1; obtain ⟨c, hc⟩ := h_; have := blk_lt hc; omega, fun e => by have h_ := HX3.out.typ.2.1; obtain ⟨c, hc⟩ := h_; have := blk_lt hc; omega, fun e => by have h_ := HX3.out.typ.2.2; obtain ⟨c, hc⟩ := h_; have := blk_lt hc; omega⟩) HX3.out.ro HX3.out.bel (below_size HX3.out.bel) (by omega) ?_; intro v1 w22 ho hb hg hat; obtain ⟨Ao1, co1, eo1⟩ := Kd.R_slice ho; rw [show (s.order ++ [(i : Int)]).length = s.order.length + 1 by simp] at eo1; subst eo1; have HG4 := Aside0.mk (HX3.out.grown hg hb).1; have HX4 := Aside0.mk (HX3.out.append hg hb ho); have DO4 := Aside0.mk (Kd.R_grown DO3.out hg (fun k hk e => by have h_ : k < W.heap.size := LTO2.out k e.symm; exact Nat.lt_irrefl _ (Nat.lt_of_lt_of_le h_ hk))); have h40 := (blk_cell HG4.out 0).trans rfl; have h40f := blk_frozen HG4.out 0; clear ho hb hg hat))
    have HX5 := HX4
    have DO := Aside0.mk (Kd.R_set DO4.out HG4.out (by decide) 0 (.slice Ao1 (s.order.length + 1) co1))
    clear HX2 HX3 HX4 DO2 DO3 DO4 HG4 k6 kt1 kt2 k0 h40 h40f
    have hmi := HMIN.out
    rw [HMID.out] at hmi
    have HMI := Aside0.mk hmi
    clear hmi
    go_loopg [8] n (fun kq v8 wr => ∃ (j : Nat) (vo2 : Value) (Ad2 : Option Addr) (cd2 : Nat), v8 = .int .i64 (j : Int) ∧ Aside0 (j ≤ n ∧ n - j ≤ kq) ∧ Aside0 (Sk.Fc w wr gT gq gw gt cq cw ct n (Sk.decL s.ws ({ s with qs := s.qs.set i (x - 1), tr := s.tr.set i 0, order := s.order ++ [(i : Int)] }) j) vo2 Ad2 cd2) ∧ Aside0 (Kd.R (Kd.int .i64) 3 wr W.heap.size (fun k_ => W.heap.size ≤ k_) (.slice (some ⟨go, 0, none⟩) n c3) s.ws))
    case atStart => exact ⟨0, _, _, _, rfl, ⟨⟨Nat.zero_le _, by omega⟩⟩, ⟨HX5.out⟩, ⟨(by (with_reducible repeat (first | apply Kd.R_alloc | apply Kd.R_drewN | apply Kd.R_drew)); exact DO.out)⟩⟩
    case round =>
     clear HX5 DO
     obtain ⟨j, vo2, Ad2, cd2, rfl, HJ, HX, DO⟩ := hrel
     have hj := HJ.out
     by_cases hlt : j < n
     ·have kold := (Sk.row_cell DO.out j hlt).1
      have hde : Sk.decL s.ws ({ s with qs := s.qs.set i (x - 1), tr := s.tr.set i 0, order := s.order ++ [(i : Int)] }) (j + 1) = Sk.decS s.ws (Sk.decL s.ws ({ s with qs := s.qs.set i (x - 1), tr := s.tr.set i 0, order := s.order ++ [(i : Int)] }) j) j := rfl
      have HDE := Aside0.mk hde
      obtain ⟨d1, d2, d3, d4⟩ := Sk.decL_in s.ws HMI.out.1 (by have := HI.out.sl; omega) j (by omega)
      have hbw := d1.w j (by rw [d1.lw]; exact hlt)
      clear d1 d2 d3 d4 hde
      generalize Sk.decL s.ws ({ s with qs := s.qs.set i (x - 1), tr := s.tr.set i 0, order := s.order ++ [(i : Int)] }) j = D at HX HDE hbw
      unfold Sk.decS at HDE
      have q1 : decide ((j : Int) < (n : Int)) = true := decide_eq_true (by omega)
      have q1' : decide (j < n) = true := decide_eq_true hlt
      have q2 : (j < n) = True := eq_true hlt
      by_cases ho : 0 < s.ws.getD j 0
      ·rw [if_pos ho] at HDE
       generalize hou : s.ws.getD j 0 = ou at kold ho
       have q3 : decide (ou > 0) = true := decide_eq_true ho
       have q3' : decide (0 < ou) = true := decide_eq_true ho
       have hsl := HI.out.sl
       generalize hx : D.ws.getD j 0 = x at hbw HDE
       have e1 : wrap64 (x - 1) = x - 1 := by unfold wrap64; omega
       have e2 : IntKind.i64.wrap (x - 1) = x - 1 := by rw [IntKind.wrap_i64]; omega
       have HXd := Aside0.mk HX.out.drew
       have DOd := Aside0.mk (Kd.R_drew DO.out)
       have k5 := HXd.out.flds.2.2.2.2.2.1
       have kw := HXd.out.cw_ j hlt
       rw [hx] at kw
       have kw1 := kw.1
       have kw2 := kw.2
       clear kw hx hou hbw hsl HX DO ho
       go_wp2_with fail
       refine start_ (n := 15) (S := fun w' => w'.cell? ⟨gT, 5, none⟩ = some (.slice (some ⟨gw, 0, none⟩) n cw) ∧ w'.cell? ⟨gw, j, none⟩ = some (.int .i64 x)) (ds := [14]) #[false, false, false, false, false, false, false, false, false, false, false, false, false, false, false] (by kernel_rfl) rfl rfl ⟨k5, kw1⟩ (fun hHeld => ?_); refine with_tabW spec_RunTalk.s.tab24 spec_RunTalk.s.bits24 (fun HT_ HW_ => ?_)
       generalize World.drew _ = w20 at HXd DOd k5 kw1 kw2 hHeld ⊢
       refine pure_ (i := 0) (N := some 150) (v := ?_) (a' := ?_) #[true, false, false, false, false, false, false, false, false, false, false, false, false, false, false] rfl rfl (any_of HT_.out (by kernel_rfl)) (fun _ _ _ h => h) (Or.inl ⟨by rfl, ?_⟩) ?_ ?_
       rotate_left
       ·intro w'
        go_simp
        with_reducible rfl
       rotate_left
       ·simp only [Act.put, List.setIfInBounds_toArray, List.set_cons_zero, List.set_cons_succ, i64_w, i32_w]
        rfl
       refine pure_ (i := 1) (N := some 151) (v := ?_) (a' := ?_) #[true, true, false, false, false, false, false, false, false, false, false, false, false, false, false] rfl rfl (any_of HT_.out (by kernel_rfl)) (fun _ _ _ h => h) (Or.inl ⟨by rfl, ?_⟩) ?_ ?_
       rotate_left
       ·intro w'
        go_simp
        with_reducible rfl
       rotate_left
       ·simp only [Act.put, List.setIfInBounds_toArray, List.set_cons_zero, List.set_cons_succ, i64_w, i32_w]
        rfl
       refine pure_ (i := 2) (N := some 152) (v := ?_) (a' := ?_) #[true, true, true, false, false, false, false, false, false, false, false, false, false, false, false] rfl rfl (any_of HT_.out (by kernel_rfl)) (fun _ _ _ h => h) (Or.inl ⟨by rfl, ?_⟩) ?_ ?_
       rotate_left
       ·intro w'
        go_simp
        with_reducible rfl
       rotate_left
       ·simp only [Act.put, List.setIfInBounds_toArray, List.set_cons_zero, List.set_cons_succ, i64_w, i32_w]
        rfl
       refine pure_ (i := 4) (N := some 154) (v := ?_) (a' := ?_) #[true, true, true, false, true, false, false, false, false, false, false, false, false, false, false] rfl rfl (any_of HT_.out (by kernel_rfl)) (fun _ _ _ h => h) (Or.inl ⟨by rfl, ?_⟩) ?_ ?_
       rotate_left
       ·intro w'
        go_simp
        with_reducible rfl
       rotate_left
       ·simp only [Act.put, List.setIfInBounds_toArray, List.set_cons_zero, List.set_cons_succ, i64_w, i32_w]
        rfl
       refine pure_ (i := 5) (N := some 155) (v := ?_) (a' := ?_) #[true, true, true, false, true, true, false, false, false, false, false, false, false, false, false] rfl rfl (any_of HT_.out (by kernel_rfl)) (fun _ _ _ h => h) (Or.inl ⟨by rfl, ?_⟩) ?_ ?_
       rotate_left
       ·intro w'
        go_simp
        with_reducible rfl
       rotate_left
       ·simp only [Act.put, List.setIfInBounds_toArray, List.set_cons_zero, List.set_cons_succ, i64_w, i32_w]
        rfl
       refine pure_ (i := 6) (N := some 156) (v := ?_) (a' := ?_) #[true, true, true, false, true, true, true, false, false, false, false, false, false, false, false] rfl rfl (any_of HT_.out (by kernel_rfl)) (fun _ _ _ h => h) (Or.inl ⟨by rfl, ?_⟩) ?_ ?_
       rotate_left
       ·intro w'
        go_simp
        with_reducible rfl
       rotate_left
       ·simp only [Act.put, List.setIfInBounds_toArray, List.set_cons_zero, List.set_cons_succ, i64_w, i32_w]
        rfl
       refine pure_ (i := 7) (N := some 157) (v := ?_) (a' := ?_) #[true, true, true, false, true, true, true, true, false, false, false, false, false, false, false] rfl rfl (any_of HT_.out (by kernel_rfl)) (fun _ _ _ h => h) (Or.inl ⟨by rfl, ?_⟩) ?_ ?_
       rotate_left
       ·intro w'
        go_simp
        with_reducible rfl
       rotate_left
       ·simp only [Act.put, List.setIfInBounds_toArray, List.set_cons_zero, List.set_cons_succ, i64_w, i32_w]
        rfl
       refine pure_ (i := 9) (N := some 159) (v := ?_) (a' := ?_) #[true, true, true, false, true, true, true, true, false, true, false, false, false, false, false] rfl rfl (any_of HT_.out (by kernel_rfl)) (fun _ _ _ h => h) (Or.inl ⟨by rfl, ?_⟩) ?_ ?_
       rotate_left
       ·intro w'
        go_simp
        with_reducible rfl
       rotate_left
       ·simp only [Act.put, List.setIfInBounds_toArray, List.set_cons_zero, List.set_cons_succ, i64_w, i32_w]
        rfl
       refine take_ (i := 3) (N := some 153) (v := ?_) (a' := ?_) #[true, true, true, true, true, true, true, true, false, true, false, false, false, false, false] rfl rfl (take_ofW HT_.out HW_.out (by kernel_rfl)) (fun _ _ _ h => h) (Or.inl ⟨by rfl, ?_⟩) hHeld ?_ ?_
       rotate_left
       ·rintro w' ⟨s0, s1⟩
        go_simp
        with_reducible rfl
       rotate_left
       ·simp only [Act.put, List.setIfInBounds_toArray, List.set_cons_zero, List.set_cons_succ, i64_w, i32_w]
        rfl
       refine take_ (i := 8) (N := some 158) (v := ?_) (a' := ?_) #[true, true, true, true, true, true, true, true, true, true, false, false, false, false, false] rfl rfl (take_ofW HT_.out HW_.out (by kernel_rfl)) (fun _ _ _ h => h) (Or.inl ⟨by rfl, ?_⟩) hHeld ?_ ?_
       rotate_left
       ·rintro w' ⟨s0, s1⟩
        go_simp
        with_reducible rfl
       rotate_left
       ·simp only [Act.put, List.setIfInBounds_toArray, List.set_cons_zero, List.set_cons_succ, i64_w, i32_w]
        rfl
       refine pure_ (i := 10) (N := some 160) (v := ?_) (a' := ?_) #[true, true, true, true, true, true, true, true, true, true, true, false, false, false, false] rfl rfl (any_of HT_.out (by kernel_rfl)) (fun _ _ _ h => h) (Or.inl ⟨by rfl, ?_⟩) ?_ ?_
       rotate_left
       ·intro w'
        go_simp
        with_reducible rfl
       rotate_left
       ·simp only [Act.put, List.setIfInBounds_toArray, List.set_cons_zero, List.set_cons_succ, i64_w, i32_w]
        rfl
       refine take_ (i := 11) (N := some 161) (v := ?_) (a' := ?_) #[true, true, true, true, true, true, true, true, true, true, true, true, false, false, false] rfl rfl (take_ofW HT_.out HW_.out (by kernel_rfl)) (fun _ _ _ h => h) (Or.inl ⟨by rfl, ?_⟩) hHeld ?_ ?_
       rotate_left
       ·rintro w' ⟨s0, s1⟩
        go_simp
        with_reducible rfl
       rotate_left
       ·simp only [Act.put, List.setIfInBounds_toArray, List.set_cons_zero, List.set_cons_succ, i64_w, i32_w]
        rfl
       refine pure_ (i := 12) (N := some 162) (v := ?_) (a' := ?_) #[true, true, true, true, true, true, true, true, true, true, true, true, true, false, false] rfl rfl (any_of HT_.out (by kernel_rfl)) (fun _ _ _ h => h) (Or.inl ⟨by rfl, ?_⟩) ?_ ?_
       rotate_left
       ·intro w'
        go_simp
        with_reducible rfl
       rotate_left
       ·simp only [Act.put, List.setIfInBounds_toArray, List.set_cons_zero, List.set_cons_succ, i64_w, i32_w]
        rfl
       refine pure_ (i := 13) (N := some 163) (v := ?_) (a' := ?_) #[true, true, true, true, true, true, true, true, true, true, true, true, true, true, false] rfl rfl (any_of HT_.out (by kernel_rfl)) (fun _ _ _ h => h) (Or.inl ⟨by rfl, ?_⟩) ?_ ?_
       rotate_left
       ·intro w'
        go_simp
        with_reducible rfl
       rotate_left
       ·simp only [Act.put, List.setIfInBounds_toArray, List.set_cons_zero, List.set_cons_succ, i64_w, i32_w]
        rfl
       refine last_ (i := 14) (N := none) #[true, true, true, true, true, true, true, true, true, true, true, true, true, true, true] rfl rfl (one_of HT_.out (by kernel_rfl)) (by decide) (fun K hK => ?_)
       refine skip_ (w1 := ?_) (by rfl) rfl ?_ ?_
       rotate_left
       ·go_simp
        rfl
       refine hK.out _ _ ?_
       clear hK K
       refine done_ (done_of HT_.out (by kernel_rfl)) ?_
       have HX2 := Aside0.mk (HXd.out.setw j (x - 1))
       have DO2 := Aside0.mk (Kd.R_far (p := ⟨gw, j, none⟩) DOd.out (fun k hk => fun e => by have h_ : gw < W.heap.size := LTS.out.2.1; rw [e] at hk; exact Nat.lt_irrefl _ (Nat.lt_of_lt_of_le h_ hk)) (.int .i64 (x - 1)))
       go_wp2_with fail
       go_roundg (n - (j + 1))
       case measure => omega
       case rel => exact ⟨j + 1, _, _, _, by go_num, ⟨⟨by omega, by omega⟩⟩, ⟨by rw [HDE.out]; exact HX2.out⟩, ⟨DO2.out⟩⟩
      ·rw [if_neg ho] at HDE
       generalize s.ws.getD j 0 = ou at kold ho
       have q3 : decide (ou > 0) = false := decide_eq_false ho
       have q3' : decide (0 < ou) = false := decide_eq_false ho
       go_wp2_with fail
       go_roundg (n - (j + 1))
       case measure => omega
       case rel => exact ⟨j + 1, _, _, _, by go_num, ⟨⟨by omega, by omega⟩⟩, ⟨by rw [HDE.out]; exact HX.out⟩, ⟨(by (with_reducible repeat (first | apply Kd.R_alloc | apply Kd.R_drewN | apply Kd.R_drew)); exact DO.out)⟩⟩
     ·have hje : n = j := by omega
      subst hje
      obtain ⟨d1, d2, d3, d4⟩ := Sk.decL_in s.ws HMI.out.1 (by have := HI.out.sl; omega) n (Nat.le_refl _)
      have hds := d4.trans HMI.out.2.1
      have hst : Sk.slot n s = { Sk.decL s.ws ({ s with qs := s.qs.set i (x - 1), tr := s.tr.set i 0, order := s.order ++ [(i : Int)] }) n with slots := s.slots + 1 } := by unfold Sk.slot; rw [HMID.out]
      have HST := Aside0.mk hst
      have k2 := HX.out.flds.2.2.1
      have kf2 := HX.out.flds.2.2.2.2.2.2.2.2 2
      rw [hds] at k2
      have hsl := HI.out.sl
      have e1 : wrap64 (s.slots + 1) = s.slots + 1 := by unfold wrap64; omega
      have e2 : IntKind.i64.wrap (s.slots + 1) = s.slots + 1 := by rw [IntKind.wrap_i64]; omega
      have q1 : decide ((n : Int) < (n : Int)) = false := decide_eq_false (by omega)
      have q2 : (n < n) = False := eq_false (by omega)
      clear d1 d2 d3 d4 hst hds
      go_wp2_with fail
      go_end0
      refine ⟨rfl, vo2, Ad2, cd2, ?_⟩
      rw [HST.out]
      exact HX.out.own 2 (.int .i64 (s.slots + 1)) rfl rfl rfl rfl HX.out.ro HX.out.cdr HX.out.cdl
   ·have q3 : ((S.length : Int) == 1) = false := beq_eq_false_iff_ne.mpr (show ¬ (S.length : Int) = 1 by omega)
    have q3' : (S.length == 1) = false := beq_eq_false_iff_ne.mpr cS1
    by_cases cS2 : 1 < S.length
    ·have q4 : decide ((S.length : Int) > 1) = true := decide_eq_true (by omega)
     have q4' : decide (1 < S.length) = true := decide_eq_true cS2
     rw [if_neg cS1, if_pos cS2] at HMID
     have hht := HI.out.ht
     have e1 : wrap64 (s.hits + 1) = s.hits + 1 := by have := HI.out.sl; unfold wrap64; omega
     have e2 : IntKind.i64.wrap (s.hits + 1) = s.hits + 1 := by have := HI.out.sl; rw [IntKind.wrap_i64]; omega
     have k1 := HX.out.flds.2.1
     have kf1 := HX.out.flds.2.2.2.2.2.2.2.2 1
     go_wp2_with fail
     have HX1 := Aside0.mk (HX.out.own (s' := { s with hits := s.hits + 1 }) (vo' := vo) (Ad' := Ad) (cd' := cd) 1 (.int .i64 (s.hits + 1)) rfl rfl rfl rfl HX.out.ro HX.out.cdr HX.out.cdl)
     have DN1 := Aside0.mk (Kd.R_set DN.out HX.out.blk (by decide) 1 (.int .i64 (s.hits + 1)))
     have DO1 := Aside0.mk (Kd.R_set DO.out HX.out.blk (by decide) 1 (.int .i64 (s.hits + 1)))
     clear HX DN DO k1 kf1 e1 e2 k4
     generalize World.setCell _ ⟨gT, 1, none⟩ (.int .i64 (s.hits + 1)) = w20 at HX1 DN1 DO1 ⊢
     go_loopg [6] S.length (fun kq v6 wr => ∃ (j : Nat) (vo3 : Value) (Ad3 : Option Addr) (cd3 : Nat), v6 = .int .i64 (j : Int) ∧ Aside0 (j ≤ S.length ∧ S.length - j ≤ kq) ∧ Aside0 (Sk.Fc w wr gT gq gw gt cq cw ct n ((S.take j).foldl Sk.hit1 { s with hits := s.hits + 1 }) vo3 Ad3 cd3) ∧ Aside0 (Kd.R (Kd.int .i64) 3 wr W.heap.size (fun k_ => W.heap.size ≤ k_) (.slice A2 S.length c2) S) ∧ Aside0 (Kd.R (Kd.int .i64) 3 wr W.heap.size (fun k_ => W.heap.size ≤ k_) (.slice (some ⟨go, 0, none⟩) n c3) s.ws))
     case atStart => exact ⟨0, vo, Ad, cd, rfl, ⟨⟨Nat.zero_le _, by omega⟩⟩, HX1, DN1, DO1⟩
     case round =>
      clear HX1 DN1 DO1
      obtain ⟨j, vo3, Ad3, cd3, rfl, HJ, HX, DN, DO⟩ := hrel
      have hj := HJ.out
      by_cases hlt : j < S.length
      ·obtain ⟨i, hi, hil⟩ := HNS.out (rd S (j : Int)) (by rw [show rd S (j : Int) = S[j] by simp [rd, List.getD_eq_getElem?_getD, hlt]]; exact List.getElem_mem hlt)
       have htk : S.take (j + 1) = S.take j ++ [(i : Int)] := by rw [List.take_succ_eq_append_getElem hlt, ← hi]; simp [rd, List.getD_eq_getElem?_getD, hlt]
       obtain ⟨adS, eS, hxS⟩ := Kd.at_int (Kd.R_reads' DN.out).2.2 (j : Int) (by omega) (by omega)
       cases eS
       rw [hi, Int.toNat_natCast] at hxS
       have hin := HI.out.ins
       have hsl := HI.out.sl
       have hi2 : Sk.InS (20 * s.slots) n { s with hits := s.hits + 1 } := ⟨hin.lq, hin.lw, hin.lt, hin.q, hin.w, hin.t, hin.d⟩
       obtain ⟨k1, _, _, _⟩ := Sk.hits_in hn6 (S.take j) hi2 (by omega) (fun k hk => HNS.out k (List.mem_of_mem_take hk))
       rw [List.length_take] at k1
       obtain ⟨_, n4, nt⟩ := Sk.hit1_in k1 (by omega) hn6 i hil
       have hsP : (S.take (j + 1)).foldl Sk.hit1 { s with hits := s.hits + 1 } = Sk.hit1 ((S.take j).foldl Sk.hit1 { s with hits := s.hits + 1 }) (i : Int) := by rw [htk, List.foldl_append]; rfl
       have HSP := Aside0.mk hsP
       have HN4 := Aside0.mk n4
       clear k1 n4 hsP htk hi hi2 hin hht
       generalize (S.take j).foldl Sk.hit1 { s with hits := s.hits + 1 } = P at HX HSP HN4 nt
       have HXd := Aside0.mk HX.out.drew
       have DNd := Aside0.mk (Kd.R_drew DN.out)
       have DOd := Aside0.mk (Kd.R_drew DO.out)
       have k6 := HXd.out.flds.2.2.2.2.2.2.1
       have kt := HXd.out.ct_ i hil
       have hpl := HXd.out.lens.2.2
       generalize hx : P.tr.getD i 0 = x at kt nt
       have HXX := Aside0.mk hx
       have kt1 := kt.1
       have kt2 := kt.2
       have e1 : wrap64 (x + 1) = x + 1 := by unfold wrap64; omega
       have e2 : IntKind.i64.wrap (x + 1) = x + 1 := by rw [IntKind.wrap_i64]; omega
       have q5 : decide ((j : Int) < (S.length : Int)) = true := decide_eq_true (by omega)
       have q6 : (j < S.length) = True := eq_true hlt
       have q7 : (i < n) = True := eq_true hil
       have HWT := Aside0.mk (Sk.l9Wait_eq (t := x + 1) (d := P.ds.headD (33 * (i : Int))) (by omega))
       have HPL := Aside0.mk hpl
       clear kt hx HX DN DO nt hpl
       go_wp2_with fail
       refine start_ (n := 15) (S := fun w' => w'.cell? ⟨gT, 6, none⟩ = some (.slice (some ⟨gt, 0, none⟩) n ct) ∧ w'.cell? ⟨gt, i, none⟩ = some (.int .i64 x)) (ds := [14]) #[false, false, false, false, false, false, false, false, false, false, false, false, false, false, false] (by kernel_rfl) rfl rfl ⟨k6, kt1⟩ (fun hHeld => ?_); refine with_tabW spec_RunTalk.s.tab18 spec_RunTalk.s.bits18 (fun HT_ HW_ => ?_)
       generalize World.drew _ = w21 at HXd DNd DOd k6 kt1 kt2 hHeld ⊢
       refine pure_ (i := 0) (N := some 108) (v := ?_) (a' := ?_) #[true, false, false, false, false, false, false, false, false, false, false, false, false, false, false] rfl rfl (any_of HT_.out (by kernel_rfl)) (fun _ _ _ h => h) (Or.inl ⟨by rfl, ?_⟩) ?_ ?_
       rotate_left
       ·intro w'
        go_simp
        with_reducible rfl
       rotate_left
       ·simp only [Act.put, List.setIfInBounds_toArray, List.set_cons_zero, List.set_cons_succ, i64_w, i32_w]
        rfl
       refine pure_ (i := 1) (N := some 109) (v := ?_) (a' := ?_) #[true, true, false, false, false, false, false, false, false, false, false, false, false, false, false] rfl rfl (any_of HT_.out (by kernel_rfl)) (fun _ _ _ h => h) (Or.inl ⟨by rfl, ?_⟩) ?_ ?_
       rotate_left
       ·intro w'
        go_simp
        with_reducible rfl
       rotate_left
       ·simp only [Act.put, List.setIfInBounds_toArray, List.set_cons_zero, List.set_cons_succ, i64_w, i32_w]
        rfl
       refine pure_ (i := 2) (N := some 110) (v := ?_) (a' := ?_) #[true, true, true, false, false, false, false, false, false, false, false, false, false, false, false] rfl rfl (any_of HT_.out (by kernel_rfl)) (fun _ _ _ h => h) (Or.inl ⟨by rfl, ?_⟩) ?_ ?_
       rotate_left
       ·intro w'
        go_simp
        with_reducible rfl
       rotate_left
       ·simp only [Act.put, List.setIfInBounds_toArray, List.set_cons_zero, List.set_cons_succ, i64_w, i32_w]
        rfl
       refine pure_ (i := 4) (N := some 112) (v := ?_) (a' := ?_) #[true, true, true, false, true, false, false, false, false, false, false, false, false, false, false] rfl rfl (any_of HT_.out (by kernel_rfl)) (fun _ _ _ h => h) (Or.inl ⟨by rfl, ?_⟩) ?_ ?_
       rotate_left
       ·intro w'
        go_simp
        with_reducible rfl
       rotate_left
       ·simp only [Act.put, List.setIfInBounds_toArray, List.set_cons_zero, List.set_cons_succ, i64_w, i32_w]
        rfl
       refine pure_ (i := 5) (N := some 113) (v := ?_) (a' := ?_) #[true, true, true, false, true, true, false, false, false, false, false, false, false, false, false] rfl rfl (any_of HT_.out (by kernel_rfl)) (fun _ _ _ h => h) (Or.inl ⟨by rfl, ?_⟩) ?_ ?_
       rotate_left
       ·intro w'
        go_simp
        with_reducible rfl
       rotate_left
       ·simp only [Act.put, List.setIfInBounds_toArray, List.set_cons_zero, List.set_cons_succ, i64_w, i32_w]
        rfl
       refine pure_ (i := 6) (N := some 114) (v := ?_) (a' := ?_) #[true, true, true, false, true, true, true, false, false, false, false, false, false, false, false] rfl rfl (any_of HT_.out (by kernel_rfl)) (fun _ _ _ h => h) (Or.inl ⟨by rfl, ?_⟩) ?_ ?_
       rotate_left
       ·intro w'
        go_simp
        with_reducible rfl
       rotate_left
       ·simp only [Act.put, List.setIfInBounds_toArray, List.set_cons_zero, List.set_cons_succ, i64_w, i32_w]
        rfl
       refine pure_ (i := 7) (N := some 115) (v := ?_) (a' := ?_) #[true, true, true, false, true, true, true, true, false, false, false, false, false, false, false] rfl rfl (any_of HT_.out (by kernel_rfl)) (fun _ _ _ h => h) (Or.inl ⟨by rfl, ?_⟩) ?_ ?_
       rotate_left
       ·intro w'
        go_simp
        with_reducible rfl
       rotate_left
       ·simp only [Act.put, List.setIfInBounds_toArray, List.set_cons_zero, List.set_cons_succ, i64_w, i32_w]
        rfl
       refine pure_ (i := 9) (N := some 117) (v := ?_) (a' := ?_) #[true, true, true, false, true, true, true, true, false, true, false, false, false, false, false] rfl rfl (any_of HT_.out (by kernel_rfl)) (fun _ _ _ h => h) (Or.inl ⟨by rfl, ?_⟩) ?_ ?_
       rotate_left
       ·intro w'
        go_simp
        with_reducible rfl
       rotate_left
       ·simp only [Act.put, List.setIfInBounds_toArray, List.set_cons_zero, List.set_cons_succ, i64_w, i32_w]
        rfl
       refine take_ (i := 3) (N := some 111) (v := ?_) (a' := ?_) #[true, true, true, true, true, true, true, true, false, true, false, false, false, false, false] rfl rfl (take_ofW HT_.out HW_.out (by kernel_rfl)) (fun _ _ _ h => h) (Or.inl ⟨by rfl, ?_⟩) hHeld ?_ ?_
       rotate_left
       ·rintro w' ⟨s0, s1⟩
        go_simp
        with_reducible rfl
       rotate_left
       ·simp only [Act.put, List.setIfInBounds_toArray, List.set_cons_zero, List.set_cons_succ, i64_w, i32_w]
        rfl
       refine take_ (i := 8) (N := some 116) (v := ?_) (a' := ?_) #[true, true, true, true, true, true, true, true, true, true, false, false, false, false, false] rfl rfl (take_ofW HT_.out HW_.out (by kernel_rfl)) (fun _ _ _ h => h) (Or.inl ⟨by rfl, ?_⟩) hHeld ?_ ?_
       rotate_left
       ·rintro w' ⟨s0, s1⟩
        go_simp
        with_reducible rfl
       rotate_left
       ·simp only [Act.put, List.setIfInBounds_toArray, List.set_cons_zero, List.set_cons_succ, i64_w, i32_w]
        rfl
       refine pure_ (i := 10) (N := some 118) (v := ?_) (a' := ?_) #[true, true, true, true, true, true, true, true, true, true, true, false, false, false, false] rfl rfl (any_of HT_.out (by kernel_rfl)) (fun _ _ _ h => h) (Or.inl ⟨by rfl, ?_⟩) ?_ ?_
       rotate_left
       ·intro w'
        go_simp
        with_reducible rfl
       rotate_left
       ·simp only [Act.put, List.setIfInBounds_toArray, List.set_cons_zero, List.set_cons_succ, i64_w, i32_w]
        rfl
       refine take_ (i := 11) (N := some 119) (v := ?_) (a' := ?_) #[true, true, true, true, true, true, true, true, true, true, true, true, false, false, false] rfl rfl (take_ofW HT_.out HW_.out (by kernel_rfl)) (fun _ _ _ h => h) (Or.inl ⟨by rfl, ?_⟩) hHeld ?_ ?_
       rotate_left
       ·rintro w' ⟨s0, s1⟩
        go_simp
        with_reducible rfl
       rotate_left
       ·simp only [Act.put, List.setIfInBounds_toArray, List.set_cons_zero, List.set_cons_succ, i64_w, i32_w]
        rfl
       refine pure_ (i := 12) (N := some 120) (v := ?_) (a' := ?_) #[true, true, true, true, true, true, true, true, true, true, true, true, true, false, false] rfl rfl (any_of HT_.out (by kernel_rfl)) (fun _ _ _ h => h) (Or.inl ⟨by rfl, ?_⟩) ?_ ?_
       rotate_left
       ·intro w'
        go_simp
        with_reducible rfl
       rotate_left
       ·simp only [Act.put, List.setIfInBounds_toArray, List.set_cons_zero, List.set_cons_succ, i64_w, i32_w]
        rfl
       refine pure_ (i := 13) (N := some 121) (v := ?_) (a' := ?_) #[true, true, true, true, true, true, true, true, true, true, true, true, true, true, false] rfl rfl (any_of HT_.out (by kernel_rfl)) (fun _ _ _ h => h) (Or.inl ⟨by rfl, ?_⟩) ?_ ?_
       rotate_left
       ·intro w'
        go_simp
        with_reducible rfl
       rotate_left
       ·simp only [Act.put, List.setIfInBounds_toArray, List.set_cons_zero, List.set_cons_succ, i64_w, i32_w]
        rfl
       refine last_ (i := 14) (N := none) #[true, true, true, true, true, true, true, true, true, true, true, true, true, true, true] rfl rfl (one_of HT_.out (by kernel_rfl)) (by decide) (fun K hK => ?_)
       refine skip_ (w1 := ?_) (by rfl) rfl ?_ ?_
       rotate_left
       ·go_simp
        rfl
       refine hK.out _ _ ?_
       clear hK K
       refine done_ (done_of HT_.out (by kernel_rfl)) ?_
       go_wp2_with fail
       have HX3 := Aside0.mk (HXd.out.sett i (x + 1)).drew
       have DN3 := Aside0.mk (Kd.R_drew (Kd.R_far (p := ⟨gt, i, none⟩) DNd.out (fun k hk => fun e => by have h_ : gt < W.heap.size := LTS.out.2.2.1; rw [e] at hk; exact Nat.lt_irrefl _ (Nat.lt_of_lt_of_le h_ hk)) (.int .i64 (x + 1))))
       have DO3 := Aside0.mk (Kd.R_drew (Kd.R_far (p := ⟨gt, i, none⟩) DOd.out (fun k hk => fun e => by have h_ : gt < W.heap.size := LTS.out.2.2.1; rw [e] at hk; exact Nat.lt_irrefl _ (Nat.lt_of_lt_of_le h_ hk)) (.int .i64 (x + 1))))
       clear HXd DNd DOd k6 kt1 kt2
       have k5 := HX3.out.flds.2.2.2.2.2.1
       have k6 := HX3.out.flds.2.2.2.2.2.2.1
       have kt := (HX3.out.ct_ i hil).1
       rw [show ({ P with tr := P.tr.set i (x + 1) } : Sk.Sp).tr.getD i 0 = x + 1 from by show (P.tr.set i (x + 1)).getD i 0 = x + 1; rw [Sk.getD_set P.tr i i _ (by rw [HPL.out]; exact hil), if_pos rfl]] at kt
       refine start_ (n := 18) (S := fun w' => w'.cell? ⟨gT, 5, none⟩ = some (.slice (some ⟨gw, 0, none⟩) n cw) ∧ w'.cell? ⟨gT, 6, none⟩ = some (.slice (some ⟨gt, 0, none⟩) n ct) ∧ w'.cell? ⟨gt, i, none⟩ = some (.int .i64 (x + 1))) (ds := [17]) #[false, false, false, false, false, false, false, false, false, false, false, false, false, false, false, false, false, false] (by kernel_rfl) rfl rfl ⟨k5, k6, kt⟩ (fun hHeld => ?_); refine with_tabW spec_RunTalk.s.tab19 spec_RunTalk.s.bits19 (fun HT_ HW_ => ?_)
       generalize World.drew _ = w23 at HX3 DN3 DO3 k5 k6 kt hHeld ⊢
       refine pure_ (i := 0) (N := some 122) (v := ?_) (a' := ?_) #[true, false, false, false, false, false, false, false, false, false, false, false, false, false, false, false, false, false] rfl rfl (any_of HT_.out (by kernel_rfl)) (fun _ _ _ h => h) (Or.inl ⟨by rfl, ?_⟩) ?_ ?_
       rotate_left
       ·intro w'
        go_simp
        with_reducible rfl
       rotate_left
       ·simp only [Act.put, List.setIfInBounds_toArray, List.set_cons_zero, List.set_cons_succ, i64_w, i32_w]
        rfl
       refine pure_ (i := 1) (N := some 123) (v := ?_) (a' := ?_) #[true, true, false, false, false, false, false, false, false, false, false, false, false, false, false, false, false, false] rfl rfl (any_of HT_.out (by kernel_rfl)) (fun _ _ _ h => h) (Or.inl ⟨by rfl, ?_⟩) ?_ ?_
       rotate_left
       ·intro w'
        go_simp
        with_reducible rfl
       rotate_left
       ·simp only [Act.put, List.setIfInBounds_toArray, List.set_cons_zero, List.set_cons_succ, i64_w, i32_w]
        rfl
       refine pure_ (i := 2) (N := some 124) (v := ?_) (a' := ?_) #[true, true, true, false, false, false, false, false, false, false, false, false, false, false, false, false, false, false] rfl rfl (any_of HT_.out (by kernel_rfl)) (fun _ _ _ h => h) (Or.inl ⟨by rfl, ?_⟩) ?_ ?_
       rotate_left
       ·intro w'
        go_simp
        with_reducible rfl
       rotate_left
       ·simp only [Act.put, List.setIfInBounds_toArray, List.set_cons_zero, List.set_cons_succ, i64_w, i32_w]
        rfl
       refine pure_ (i := 4) (N := some 126) (v := ?_) (a' := ?_) #[true, true, true, false, true, false, false, false, false, false, false, false, false, false, false, false, false, false] rfl rfl (any_of HT_.out (by kernel_rfl)) (fun _ _ _ h => h) (Or.inl ⟨by rfl, ?_⟩) ?_ ?_
       rotate_left
       ·intro w'
        go_simp
        with_reducible rfl
       rotate_left
       ·simp only [Act.put, List.setIfInBounds_toArray, List.set_cons_zero, List.set_cons_succ, i64_w, i32_w]
        rfl
       refine pure_ (i := 5) (N := some 127) (v := ?_) (a' := ?_) #[true, true, true, false, true, true, false, false, false, false, false, false, false, false, false, false, false, false] rfl rfl (any_of HT_.out (by kernel_rfl)) (fun _ _ _ h => h) (Or.inl ⟨by rfl, ?_⟩) ?_ ?_
       rotate_left
       ·intro w'
        go_simp
        with_reducible rfl
       rotate_left
       ·simp only [Act.put, List.setIfInBounds_toArray, List.set_cons_zero, List.set_cons_succ, i64_w, i32_w]
        rfl
       refine pure_ (i := 6) (N := some 128) (v := ?_) (a' := ?_) #[true, true, true, false, true, true, true, false, false, false, false, false, false, false, false, false, false, false] rfl rfl (any_of HT_.out (by kernel_rfl)) (fun _ _ _ h => h) (Or.inl ⟨by rfl, ?_⟩) ?_ ?_
       rotate_left
       ·intro w'
        go_simp
        with_reducible rfl
       rotate_left
       ·simp only [Act.put, List.setIfInBounds_toArray, List.set_cons_zero, List.set_cons_succ, i64_w, i32_w]
        rfl
       refine pure_ (i := 7) (N := some 129) (v := ?_) (a' := ?_) #[true, true, true, false, true, true, true, true, false, false, false, false, false, false, false, false, false, false] rfl rfl (any_of HT_.out (by kernel_rfl)) (fun _ _ _ h => h) (Or.inl ⟨by rfl, ?_⟩) ?_ ?_
       rotate_left
       ·intro w'
        go_simp
        with_reducible rfl
       rotate_left
       ·simp only [Act.put, List.setIfInBounds_toArray, List.set_cons_zero, List.set_cons_succ, i64_w, i32_w]
        rfl
       refine pure_ (i := 9) (N := some 131) (v := ?_) (a' := ?_) #[true, true, true, false, true, true, true, true, false, true, false, false, false, false, false, false, false, false] rfl rfl (any_of HT_.out (by kernel_rfl)) (fun _ _ _ h => h) (Or.inl ⟨by rfl, ?_⟩) ?_ ?_
       rotate_left
       ·intro w'
        go_simp
        with_reducible rfl
       rotate_left
       ·simp only [Act.put, List.setIfInBounds_toArray, List.set_cons_zero, List.set_cons_succ, i64_w, i32_w]
        rfl
       refine pure_ (i := 12) (N := some 134) (v := ?_) (a' := ?_) #[true, true, true, false, true, true, true, true, false, true, false, false, true, false, false, false, false, false] rfl rfl (any_of HT_.out (by kernel_rfl)) (fun _ _ _ h => h) (Or.inl ⟨by rfl, ?_⟩) ?_ ?_
       rotate_left
       ·intro w'
        go_simp
        with_reducible rfl
       rotate_left
       ·simp only [Act.put, List.setIfInBounds_toArray, List.set_cons_zero, List.set_cons_succ, i64_w, i32_w]
        rfl
       refine pure_ (i := 13) (N := some 135) (v := ?_) (a' := ?_) #[true, true, true, false, true, true, true, true, false, true, false, false, true, true, false, false, false, false] rfl rfl (any_of HT_.out (by kernel_rfl)) (fun _ _ _ h => h) (Or.inl ⟨by rfl, ?_⟩) ?_ ?_
       rotate_left
       ·intro w'
        go_simp
        with_reducible rfl
       rotate_left
       ·simp only [Act.put, List.setIfInBounds_toArray, List.set_cons_zero, List.set_cons_succ, i64_w, i32_w]
        rfl
       refine take_ (i := 3) (N := some 125) (v := ?_) (a' := ?_) #[true, true, true, true, true, true, true, true, false, true, false, false, true, true, false, false, false, false] rfl rfl (take_ofW HT_.out HW_.out (by kernel_rfl)) (fun _ _ _ h => h) (Or.inl ⟨by rfl, ?_⟩) hHeld ?_ ?_
       rotate_left
       ·rintro w' ⟨s0, s1, s2⟩
        go_simp
        with_reducible rfl
       rotate_left
       ·simp only [Act.put, List.setIfInBounds_toArray, List.set_cons_zero, List.set_cons_succ, i64_w, i32_w]
        rfl
       refine take_ (i := 8) (N := some 130) (v := ?_) (a' := ?_) #[true, true, true, true, true, true, true, true, true, true, false, false, true, true, false, false, false, false] rfl rfl (take_ofW HT_.out HW_.out (by kernel_rfl)) (fun _ _ _ h => h) (Or.inl ⟨by rfl, ?_⟩) hHeld ?_ ?_
       rotate_left
       ·rintro w' ⟨s0, s1, s2⟩
        go_simp
        with_reducible rfl
       rotate_left
       ·simp only [Act.put, List.setIfInBounds_toArray, List.set_cons_zero, List.set_cons_succ, i64_w, i32_w]
        rfl
       refine pure_ (i := 10) (N := some 132) (v := ?_) (a' := ?_) #[true, true, true, true, true, true, true, true, true, true, true, false, true, true, false, false, false, false] rfl rfl (any_of HT_.out (by kernel_rfl)) (fun _ _ _ h => h) (Or.inl ⟨by rfl, ?_⟩) ?_ ?_
       rotate_left
       ·intro w'
        go_simp
        with_reducible rfl
       rotate_left
       ·simp only [Act.put, List.setIfInBounds_toArray, List.set_cons_zero, List.set_cons_succ, i64_w, i32_w]
        rfl
       refine take_ (i := 11) (N := some 133) (v := ?_) (a' := ?_) #[true, true, true, true, true, true, true, true, true, true, true, true, true, true, false, false, false, false] rfl rfl (take_ofW HT_.out HW_.out (by kernel_rfl)) (fun _ _ _ h => h) (Or.inl ⟨by rfl, ?_⟩) hHeld ?_ ?_
       rotate_left
       ·rintro w' ⟨s0, s1, s2⟩
        go_simp
        with_reducible rfl
       rotate_left
       ·simp only [Act.put, List.setIfInBounds_toArray, List.set_cons_zero, List.set_cons_succ, i64_w, i32_w]
        rfl
       refine one_ (i := 14) (N := some 136) #[true, true, true, true, true, true, true, true, true, true, true, true, true, true, true, false, false, false] rfl rfl (one_of HT_.out (by kernel_rfl)) (by decide) (fun K hK => ?_)
       refine goes_ Try.func43 (by kernel_rfl) rfl #[.pointer (some ⟨gT, 0, none⟩), .int .i64 (i : Int)] (by rfl) rfl rfl (by simp only [List.map_toArray, List.map_cons, List.map_nil]; rfl) ?_
       with_reducible refine (Sk.draw HX3.out i (by omega)).mono ?_
       rintro e w24 ⟨rfl, ⟨Ad4, cd4, hf4⟩, hsame⟩
       have HX4 := Aside0.mk hf4
       have DN4 := Aside0.mk (Kd.R_step DN3.out (fun k hk _ => hsame k (fun e => by have h_ : gT < W.heap.size := LTS.out.2.2.2; rw [e] at hk; exact Nat.lt_irrefl _ (Nat.lt_of_lt_of_le h_ hk))))
       have DO4 := Aside0.mk (Kd.R_step DO3.out (fun k hk _ => hsame k (fun e => by have h_ : gT < W.heap.size := LTS.out.2.2.2; rw [e] at hk; exact Nat.lt_irrefl _ (Nat.lt_of_lt_of_le h_ hk))))
       have m5 := hf4.flds.2.2.2.2.2.1
       have m6 := hf4.flds.2.2.2.2.2.2.1
       have mt := (hf4.ct_ i hil).1
       rw [show ({ ({ P with tr := P.tr.set i (x + 1) } : Sk.Sp) with ds := ({ P with tr := P.tr.set i (x + 1) } : Sk.Sp).ds.tail } : Sk.Sp).tr.getD i 0 = x + 1 from by show (P.tr.set i (x + 1)).getD i 0 = x + 1; rw [Sk.getD_set P.tr i i _ (by rw [HPL.out]; exact hil), if_pos rfl]] at mt
       clear hf4 hsame
       refine ⟨_, rfl, ?_⟩
       refine hK.out _ _ ⟨m5, m6, mt⟩ (fun hHeld => ?_)
       clear hK K
       refine norm_ (a' := ?_) ?_ ?_
       rotate_left
       ·show Act.put _ (some 136) _ = _
        simp only [Act.put, List.setIfInBounds_toArray, List.set_cons_zero, List.set_cons_succ, i64_w, i32_w]
        rfl
       refine one_ (i := 15) (N := some 137) #[true, true, true, true, true, true, true, true, true, true, true, true, true, true, true, true, false, false] rfl rfl (one_of HT_.out (by kernel_rfl)) (by decide) (fun K hK => ?_)
       refine goes_ Try.func42 (by kernel_rfl) rfl #[.int .i64 (x + 1), .int .i64 (P.ds.headD (33 * (i : Int)))] (by rfl) rfl rfl (by simp only [List.map_toArray, List.map_cons, List.map_nil]; rfl) ?_
       with_reducible refine (spec_l9Wait.calls (x + 1) (P.ds.headD (33 * (i : Int))) (Tk.wait (x + 1) (P.ds.headD (33 * (i : Int)))) _ HWT.out).mono ?_
       rintro e w25 ⟨rfl, hb⟩
       have mw := (HX4.out.below hb).cw_ i hil
       have mw1 := mw.1
       have mw2 := mw.2
       clear mw
       refine ⟨_, rfl, ?_⟩
       refine hK.out _ _ ⟨(hb.cell (World.block_lt_of_cell? w24 _ hHeld.1)).trans hHeld.1, (hb.cell (World.block_lt_of_cell? w24 _ hHeld.2.1)).trans hHeld.2.1, (hb.cell (World.block_lt_of_cell? w24 _ hHeld.2.2)).trans hHeld.2.2⟩ (fun hHeld => ?_)
       clear hK K
       refine norm_ (a' := ?_) ?_ ?_
       rotate_left
       ·show Act.put _ (some 137) _ = _
        simp only [Act.put, List.setIfInBounds_toArray, List.set_cons_zero, List.set_cons_succ, i64_w, i32_w]
        rfl
       refine pure_ (i := 16) (N := some 138) (v := ?_) (a' := ?_) #[true, true, true, true, true, true, true, true, true, true, true, true, true, true, true, true, true, false] rfl rfl (any_of HT_.out (by kernel_rfl)) (fun _ _ _ h => h) (Or.inl ⟨by rfl, ?_⟩) ?_ ?_
       rotate_left
       ·intro w'
        go_simp
        with_reducible rfl
       rotate_left
       ·simp only [Act.put, List.setIfInBounds_toArray, List.set_cons_zero, List.set_cons_succ, i64_w, i32_w]
        rfl
       refine last_ (i := 17) (N := none) #[true, true, true, true, true, true, true, true, true, true, true, true, true, true, true, true, true, true] rfl rfl (one_of HT_.out (by kernel_rfl)) (by decide) (fun K hK => ?_)
       refine skip_ (w1 := ?_) (by rfl) rfl ?_ ?_
       rotate_left
       ·go_simp
        rfl
       refine hK.out _ _ ?_
       clear hK K
       refine done_ (done_of HT_.out (by kernel_rfl)) ?_
       go_wp2_with fail
       go_roundg (S.length - (j + 1))
       case measure => omega
       case rel =>
        have HX5 := HX4.out.below hb
        refine ⟨j + 1, vo3, Ad4, cd4, by go_num, ⟨⟨by omega, by omega⟩⟩, ?_, ⟨Kd.R_far (p := ⟨gw, i, none⟩) (Kd.R_below DN4.out hb) (fun k hk => fun e => by have h_ : gw < W.heap.size := LTS.out.2.1; rw [e] at hk; exact Nat.lt_irrefl _ (Nat.lt_of_lt_of_le h_ hk)) _⟩, ⟨Kd.R_far (p := ⟨gw, i, none⟩) (Kd.R_below DO4.out hb) (fun k hk => fun e => by have h_ : gw < W.heap.size := LTS.out.2.1; rw [e] at hk; exact Nat.lt_irrefl _ (Nat.lt_of_lt_of_le h_ hk)) _⟩⟩
        refine ⟨?_⟩
        rw [HSP.out]
        have h6 := HX5.setw i (Tk.wait (x + 1) (P.ds.headD (33 * (i : Int))))
        have he : Sk.hit1 P (i : Int) = { P with tr := P.tr.set i (x + 1), ws := P.ws.set i (Tk.wait (x + 1) (P.ds.headD (33 * (i : Int)))), ds := P.ds.tail } := by unfold Sk.hit1; rw [Int.toNat_natCast, HXX.out]
        rw [he, show P.ds.head?.getD (33 * (i : Int)) = P.ds.headD (33 * (i : Int)) by cases P.ds <;> rfl]
        exact h6
      ·have hje : j = S.length := by omega
       subst hje
       rw [List.take_length] at HX
       have q5 : decide ((S.length : Int) < (S.length : Int)) = false := decide_eq_false (by omega)
       have q6 : (S.length < S.length) = False := eq_false (by omega)
       go_wp2_with fail
       have hmi := HMIN.out
       rw [HMID.out] at hmi
       have HMI := Aside0.mk hmi
       clear hmi
       go_loopg [8] n (fun kq v8 wr => ∃ (j : Nat) (vo2 : Value) (Ad2 : Option Addr) (cd2 : Nat), v8 = .int .i64 (j : Int) ∧ Aside0 (j ≤ n ∧ n - j ≤ kq) ∧ Aside0 (Sk.Fc w wr gT gq gw gt cq cw ct n (Sk.decL s.ws (S.foldl Sk.hit1 { s with hits := s.hits + 1 }) j) vo2 Ad2 cd2) ∧ Aside0 (Kd.R (Kd.int .i64) 3 wr W.heap.size (fun k_ => W.heap.size ≤ k_) (.slice (some ⟨go, 0, none⟩) n c3) s.ws))
       case atStart => exact ⟨0, _, _, _, rfl, ⟨⟨Nat.zero_le _, by omega⟩⟩, ⟨HX.out⟩, ⟨(by (with_reducible repeat (first | apply Kd.R_alloc | apply Kd.R_drewN | apply Kd.R_drew)); exact DO.out)⟩⟩
       case round =>
        clear HX DO
        obtain ⟨j, vo2, Ad2, cd2, rfl, HJ, HX, DO⟩ := hrel
        have hj := HJ.out
        by_cases hlt : j < n
        ·have kold := (Sk.row_cell DO.out j hlt).1
         have hde : Sk.decL s.ws (S.foldl Sk.hit1 { s with hits := s.hits + 1 }) (j + 1) = Sk.decS s.ws (Sk.decL s.ws (S.foldl Sk.hit1 { s with hits := s.hits + 1 }) j) j := rfl
         have HDE := Aside0.mk hde
         obtain ⟨d1, d2, d3, d4⟩ := Sk.decL_in s.ws HMI.out.1 (by have := HI.out.sl; omega) j (by omega)
         have hbw := d1.w j (by rw [d1.lw]; exact hlt)
         clear d1 d2 d3 d4 hde
         generalize Sk.decL s.ws (S.foldl Sk.hit1 { s with hits := s.hits + 1 }) j = D at HX HDE hbw
         unfold Sk.decS at HDE
         have q1 : decide ((j : Int) < (n : Int)) = true := decide_eq_true (by omega)
         have q1' : decide (j < n) = true := decide_eq_true hlt
         have q2 : (j < n) = True := eq_true hlt
         by_cases ho : 0 < s.ws.getD j 0
         ·rw [if_pos ho] at HDE
          generalize hou : s.ws.getD j 0 = ou at kold ho
          have q3 : decide (ou > 0) = true := decide_eq_true ho
          have q3' : decide (0 < ou) = true := decide_eq_true ho
          have hsl := HI.out.sl
          generalize hx : D.ws.getD j 0 = x at hbw HDE
          have e1 : wrap64 (x - 1) = x - 1 := by unfold wrap64; omega
          have e2 : IntKind.i64.wrap (x - 1) = x - 1 := by rw [IntKind.wrap_i64]; omega
          have HXd := Aside0.mk HX.out.drew
          have DOd := Aside0.mk (Kd.R_drew DO.out)
          have k5 := HXd.out.flds.2.2.2.2.2.1
          have kw := HXd.out.cw_ j hlt
          rw [hx] at kw
          have kw1 := kw.1
          have kw2 := kw.2
          clear kw hx hou hbw hsl HX DO ho
          go_wp2_with fail
          refine start_ (n := 15) (S := fun w' => w'.cell? ⟨gT, 5, none⟩ = some (.slice (some ⟨gw, 0, none⟩) n cw) ∧ w'.cell? ⟨gw, j, none⟩ = some (.int .i64 x)) (ds := [14]) #[false, false, false, false, false, false, false, false, false, false, false, false, false, false, false] (by kernel_rfl) rfl rfl ⟨k5, kw1⟩ (fun hHeld => ?_); refine with_tabW spec_RunTalk.s.tab24 spec_RunTalk.s.bits24 (fun HT_ HW_ => ?_)
          generalize World.drew _ = w20 at HXd DOd k5 kw1 kw2 hHeld ⊢
          refine pure_ (i := 0) (N := some 150) (v := ?_) (a' := ?_) #[true, false, false, false, false, false, false, false, false, false, false, false, false, false, false] rfl rfl (any_of HT_.out (by kernel_rfl)) (fun _ _ _ h => h) (Or.inl ⟨by rfl, ?_⟩) ?_ ?_
          rotate_left
          ·intro w'
           go_simp
           with_reducible rfl
          rotate_left
          ·simp only [Act.put, List.setIfInBounds_toArray, List.set_cons_zero, List.set_cons_succ, i64_w, i32_w]
           rfl
          refine pure_ (i := 1) (N := some 151) (v := ?_) (a' := ?_) #[true, true, false, false, false, false, false, false, false, false, false, false, false, false, false] rfl rfl (any_of HT_.out (by kernel_rfl)) (fun _ _ _ h => h) (Or.inl ⟨by rfl, ?_⟩) ?_ ?_
          rotate_left
          ·intro w'
           go_simp
           with_reducible rfl
          rotate_left
          ·simp only [Act.put, List.setIfInBounds_toArray, List.set_cons_zero, List.set_cons_succ, i64_w, i32_w]
           rfl
          refine pure_ (i := 2) (N := some 152) (v := ?_) (a' := ?_) #[true, true, true, false, false, false, false, false, false, false, false, false, false, false, false] rfl rfl (any_of HT_.out (by kernel_rfl)) (fun _ _ _ h => h) (Or.inl ⟨by rfl, ?_⟩) ?_ ?_
          rotate_left
          ·intro w'
           go_simp
           with_reducible rfl
          rotate_left
          ·simp only [Act.put, List.setIfInBounds_toArray, List.set_cons_zero, List.set_cons_succ, i64_w, i32_w]
           rfl
          refine pure_ (i := 4) (N := some 154) (v := ?_) (a' := ?_) #[true, true, true, false, true, false, false, false, false, false, false, false, false, false, false] rfl rfl (any_of HT_.out (by kernel_rfl)) (fun _ _ _ h => h) (Or.inl ⟨by rfl, ?_⟩) ?_ ?_
          rotate_left
          ·intro w'
           go_simp
           with_reducible rfl
          rotate_left
          ·simp only [Act.put, List.setIfInBounds_toArray, List.set_cons_zero, List.set_cons_succ, i64_w, i32_w]
           rfl
          refine pure_ (i := 5) (N := some 155) (v := ?_) (a' := ?_) #[true, true, true, false, true, true, false, false, false, false, false, false, false, false, false] rfl rfl (any_of HT_.out (by kernel_rfl)) (fun _ _ _ h => h) (Or.inl ⟨by rfl, ?_⟩) ?_ ?_
          rotate_left
          ·intro w'
           go_simp
           with_reducible rfl
          rotate_left
          ·simp only [Act.put, List.setIfInBounds_toArray, List.set_cons_zero, List.set_cons_succ, i64_w, i32_w]
           rfl
          refine pure_ (i := 6) (N := some 156) (v := ?_) (a' := ?_) #[true, true, true, false, true, true, true, false, false, false, false, false, false, false, false] rfl rfl (any_of HT_.out (by kernel_rfl)) (fun _ _ _ h => h) (Or.inl ⟨by rfl, ?_⟩) ?_ ?_
          rotate_left
          ·intro w'
           go_simp
           with_reducible rfl
          rotate_left
          ·simp only [Act.put, List.setIfInBounds_toArray, List.set_cons_zero, List.set_cons_succ, i64_w, i32_w]
           rfl
          refine pure_ (i := 7) (N := some 157) (v := ?_) (a' := ?_) #[true, true, true, false, true, true, true, true, false, false, false, false, false, false, false] rfl rfl (any_of HT_.out (by kernel_rfl)) (fun _ _ _ h => h) (Or.inl ⟨by rfl, ?_⟩) ?_ ?_
          rotate_left
          ·intro w'
           go_simp
           with_reducible rfl
          rotate_left
          ·simp only [Act.put, List.setIfInBounds_toArray, List.set_cons_zero, List.set_cons_succ, i64_w, i32_w]
           rfl
          refine pure_ (i := 9) (N := some 159) (v := ?_) (a' := ?_) #[true, true, true, false, true, true, true, true, false, true, false, false, false, false, false] rfl rfl (any_of HT_.out (by kernel_rfl)) (fun _ _ _ h => h) (Or.inl ⟨by rfl, ?_⟩) ?_ ?_
          rotate_left
          ·intro w'
           go_simp
           with_reducible rfl
          rotate_left
          ·simp only [Act.put, List.setIfInBounds_toArray, List.set_cons_zero, List.set_cons_succ, i64_w, i32_w]
           rfl
          refine take_ (i := 3) (N := some 153) (v := ?_) (a' := ?_) #[true, true, true, true, true, true, true, true, false, true, false, false, false, false, false] rfl rfl (take_ofW HT_.out HW_.out (by kernel_rfl)) (fun _ _ _ h => h) (Or.inl ⟨by rfl, ?_⟩) hHeld ?_ ?_
          rotate_left
          ·rintro w' ⟨s0, s1⟩
           go_simp
           with_reducible rfl
          rotate_left
          ·simp only [Act.put, List.setIfInBounds_toArray, List.set_cons_zero, List.set_cons_succ, i64_w, i32_w]
           rfl
          refine take_ (i := 8) (N := some 158) (v := ?_) (a' := ?_) #[true, true, true, true, true, true, true, true, true, true, false, false, false, false, false] rfl rfl (take_ofW HT_.out HW_.out (by kernel_rfl)) (fun _ _ _ h => h) (Or.inl ⟨by rfl, ?_⟩) hHeld ?_ ?_
          rotate_left
          ·rintro w' ⟨s0, s1⟩
           go_simp
           with_reducible rfl
          rotate_left
          ·simp only [Act.put, List.setIfInBounds_toArray, List.set_cons_zero, List.set_cons_succ, i64_w, i32_w]
           rfl
          refine pure_ (i := 10) (N := some 160) (v := ?_) (a' := ?_) #[true, true, true, true, true, true, true, true, true, true, true, false, false, false, false] rfl rfl (any_of HT_.out (by kernel_rfl)) (fun _ _ _ h => h) (Or.inl ⟨by rfl, ?_⟩) ?_ ?_
          rotate_left
          ·intro w'
           go_simp
           with_reducible rfl
          rotate_left
          ·simp only [Act.put, List.setIfInBounds_toArray, List.set_cons_zero, List.set_cons_succ, i64_w, i32_w]
           rfl
          refine take_ (i := 11) (N := some 161) (v := ?_) (a' := ?_) #[true, true, true, true, true, true, true, true, true, true, true, true, false, false, false] rfl rfl (take_ofW HT_.out HW_.out (by kernel_rfl)) (fun _ _ _ h => h) (Or.inl ⟨by rfl, ?_⟩) hHeld ?_ ?_
          rotate_left
          ·rintro w' ⟨s0, s1⟩
           go_simp
           with_reducible rfl
          rotate_left
          ·simp only [Act.put, List.setIfInBounds_toArray, List.set_cons_zero, List.set_cons_succ, i64_w, i32_w]
           rfl
          refine pure_ (i := 12) (N := some 162) (v := ?_) (a' := ?_) #[true, true, true, true, true, true, true, true, true, true, true, true, true, false, false] rfl rfl (any_of HT_.out (by kernel_rfl)) (fun _ _ _ h => h) (Or.inl ⟨by rfl, ?_⟩) ?_ ?_
          rotate_left
          ·intro w'
           go_simp
           with_reducible rfl
          rotate_left
          ·simp only [Act.put, List.setIfInBounds_toArray, List.set_cons_zero, List.set_cons_succ, i64_w, i32_w]
           rfl
          refine pure_ (i := 13) (N := some 163) (v := ?_) (a' := ?_) #[true, true, true, true, true, true, true, true, true, true, true, true, true, true, false] rfl rfl (any_of HT_.out (by kernel_rfl)) (fun _ _ _ h => h) (Or.inl ⟨by rfl, ?_⟩) ?_ ?_
          rotate_left
          ·intro w'
           go_simp
           with_reducible rfl
          rotate_left
          ·simp only [Act.put, List.setIfInBounds_toArray, List.set_cons_zero, List.set_cons_succ, i64_w, i32_w]
           rfl
          refine last_ (i := 14) (N := none) #[true, true, true, true, true, true, true, true, true, true, true, true, true, true, true] rfl rfl (one_of HT_.out (by kernel_rfl)) (by decide) (fun K hK => ?_)
          refine skip_ (w1 := ?_) (by rfl) rfl ?_ ?_
          rotate_left
          ·go_simp
           rfl
          refine hK.out _ _ ?_
          clear hK K
          refine done_ (done_of HT_.out (by kernel_rfl)) ?_
          have HX2 := Aside0.mk (HXd.out.setw j (x - 1))
          have DO2 := Aside0.mk (Kd.R_far (p := ⟨gw, j, none⟩) DOd.out (fun k hk => fun e => by have h_ : gw < W.heap.size := LTS.out.2.1; rw [e] at hk; exact Nat.lt_irrefl _ (Nat.lt_of_lt_of_le h_ hk)) (.int .i64 (x - 1)))
          go_wp2_with fail
          go_roundg (n - (j + 1))
          case measure => omega
          case rel => exact ⟨j + 1, _, _, _, by go_num, ⟨⟨by omega, by omega⟩⟩, ⟨by rw [HDE.out]; exact HX2.out⟩, ⟨DO2.out⟩⟩
         ·rw [if_neg ho] at HDE
          generalize s.ws.getD j 0 = ou at kold ho
          have q3 : decide (ou > 0) = false := decide_eq_false ho
          have q3' : decide (0 < ou) = false := decide_eq_false ho
          go_wp2_with fail
          go_roundg (n - (j + 1))
          case measure => omega
          case rel => exact ⟨j + 1, _, _, _, by go_num, ⟨⟨by omega, by omega⟩⟩, ⟨by rw [HDE.out]; exact HX.out⟩, ⟨(by (with_reducible repeat (first | apply Kd.R_alloc | apply Kd.R_drewN | apply Kd.R_drew)); exact DO.out)⟩⟩
        ·have hje : n = j := by omega
         subst hje
         obtain ⟨d1, d2, d3, d4⟩ := Sk.decL_in s.ws HMI.out.1 (by have := HI.out.sl; omega) n (Nat.le_refl _)
         have hds := d4.trans HMI.out.2.1
         have hst : Sk.slot n s = { Sk.decL s.ws (S.foldl Sk.hit1 { s with hits := s.hits + 1 }) n with slots := s.slots + 1 } := by unfold Sk.slot; rw [HMID.out]
         have HST := Aside0.mk hst
         have k2 := HX.out.flds.2.2.1
         have kf2 := HX.out.flds.2.2.2.2.2.2.2.2 2
         rw [hds] at k2
         have hsl := HI.out.sl
         have e1 : wrap64 (s.slots + 1) = s.slots + 1 := by unfold wrap64; omega
         have e2 : IntKind.i64.wrap (s.slots + 1) = s.slots + 1 := by rw [IntKind.wrap_i64]; omega
         have q1 : decide ((n : Int) < (n : Int)) = false := decide_eq_false (by omega)
         have q2 : (n < n) = False := eq_false (by omega)
         clear d1 d2 d3 d4 hst hds
         go_wp2_with fail
         go_end0
         refine ⟨rfl, vo2, Ad2, cd2, ?_⟩
         rw [HST.out]
         exact HX.out.own 2 (.int .i64 (s.slots + 1)) rfl rfl rfl rfl HX.out.ro HX.out.cdr HX.out.cdl
    ·have q4 : decide ((S.length : Int) > 1) = false := decide_eq_false (by omega)
     have q4' : decide (1 < S.length) = false := decide_eq_false cS2
     rw [if_neg cS1, if_neg cS2] at HMID
     go_wp2_with fail
     have hmi := HMIN.out
     rw [HMID.out] at hmi
     have HMI := Aside0.mk hmi
     clear hmi
     go_loopg [8] n (fun kq v8 wr => ∃ (j : Nat) (vo2 : Value) (Ad2 : Option Addr) (cd2 : Nat), v8 = .int .i64 (j : Int) ∧ Aside0 (j ≤ n ∧ n - j ≤ kq) ∧ Aside0 (Sk.Fc w wr gT gq gw gt cq cw ct n (Sk.decL s.ws (s) j) vo2 Ad2 cd2) ∧ Aside0 (Kd.R (Kd.int .i64) 3 wr W.heap.size (fun k_ => W.heap.size ≤ k_) (.slice (some ⟨go, 0, none⟩) n c3) s.ws))
     case atStart => exact ⟨0, _, _, _, rfl, ⟨⟨Nat.zero_le _, by omega⟩⟩, ⟨HX.out⟩, ⟨(by (with_reducible repeat (first | apply Kd.R_alloc | apply Kd.R_drewN | apply Kd.R_drew)); exact DO.out)⟩⟩
     case round =>
      clear HX DO
      obtain ⟨j, vo2, Ad2, cd2, rfl, HJ, HX, DO⟩ := hrel
      have hj := HJ.out
      by_cases hlt : j < n
      ·have kold := (Sk.row_cell DO.out j hlt).1
       have hde : Sk.decL s.ws (s) (j + 1) = Sk.decS s.ws (Sk.decL s.ws (s) j) j := rfl
       have HDE := Aside0.mk hde
       obtain ⟨d1, d2, d3, d4⟩ := Sk.decL_in s.ws HMI.out.1 (by have := HI.out.sl; omega) j (by omega)
       have hbw := d1.w j (by rw [d1.lw]; exact hlt)
       clear d1 d2 d3 d4 hde
       generalize Sk.decL s.ws (s) j = D at HX HDE hbw
       unfold Sk.decS at HDE
       have q1 : decide ((j : Int) < (n : Int)) = true := decide_eq_true (by omega)
       have q1' : decide (j < n) = true := decide_eq_true hlt
       have q2 : (j < n) = True := eq_true hlt
       by_cases ho : 0 < s.ws.getD j 0
       ·rw [if_pos ho] at HDE
        generalize hou : s.ws.getD j 0 = ou at kold ho
        have q3 : decide (ou > 0) = true := decide_eq_true ho
        have q3' : decide (0 < ou) = true := decide_eq_true ho
        have hsl := HI.out.sl
        generalize hx : D.ws.getD j 0 = x at hbw HDE
        have e1 : wrap64 (x - 1) = x - 1 := by unfold wrap64; omega
        have e2 : IntKind.i64.wrap (x - 1) = x - 1 := by rw [IntKind.wrap_i64]; omega
        have HXd := Aside0.mk HX.out.drew
        have DOd := Aside0.mk (Kd.R_drew DO.out)
        have k5 := HXd.out.flds.2.2.2.2.2.1
        have kw := HXd.out.cw_ j hlt
        rw [hx] at kw
        have kw1 := kw.1
        have kw2 := kw.2
        clear kw hx hou hbw hsl HX DO ho
        go_wp2_with fail
        refine start_ (n := 15) (S := fun w' => w'.cell? ⟨gT, 5, none⟩ = some (.slice (some ⟨gw, 0, none⟩) n cw) ∧ w'.cell? ⟨gw, j, none⟩ = some (.int .i64 x)) (ds := [14]) #[false, false, false, false, false, false, false, false, false, false, false, false, false, false, false] (by kernel_rfl) rfl rfl ⟨k5, kw1⟩ (fun hHeld => ?_); refine with_tabW spec_RunTalk.s.tab24 spec_RunTalk.s.bits24 (fun HT_ HW_ => ?_)
        generalize World.drew _ = w20 at HXd DOd k5 kw1 kw2 hHeld ⊢
        refine pure_ (i := 0) (N := some 150) (v := ?_) (a' := ?_) #[true, false, false, false, false, false, false, false, false, false, false, false, false, false, false] rfl rfl (any_of HT_.out (by kernel_rfl)) (fun _ _ _ h => h) (Or.inl ⟨by rfl, ?_⟩) ?_ ?_
        rotate_left
        ·intro w'
         go_simp
         with_reducible rfl
        rotate_left
        ·simp only [Act.put, List.setIfInBounds_toArray, List.set_cons_zero, List.set_cons_succ, i64_w, i32_w]
         rfl
        refine pure_ (i := 1) (N := some 151) (v := ?_) (a' := ?_) #[true, true, false, false, false, false, false, false, false, false, false, false, false, false, false] rfl rfl (any_of HT_.out (by kernel_rfl)) (fun _ _ _ h => h) (Or.inl ⟨by rfl, ?_⟩) ?_ ?_
        rotate_left
        ·intro w'
         go_simp
         with_reducible rfl
        rotate_left
        ·simp only [Act.put, List.setIfInBounds_toArray, List.set_cons_zero, List.set_cons_succ, i64_w, i32_w]
         rfl
        refine pure_ (i := 2) (N := some 152) (v := ?_) (a' := ?_) #[true, true, true, false, false, false, false, false, false, false, false, false, false, false, false] rfl rfl (any_of HT_.out (by kernel_rfl)) (fun _ _ _ h => h) (Or.inl ⟨by rfl, ?_⟩) ?_ ?_
        rotate_left
        ·intro w'
         go_simp
         with_reducible rfl
        rotate_left
        ·simp only [Act.put, List.setIfInBounds_toArray, List.set_cons_zero, List.set_cons_succ, i64_w, i32_w]
         rfl
        refine pure_ (i := 4) (N := some 154) (v := ?_) (a' := ?_) #[true, true, true, false, true, false, false, false, false, false, false, false, false, false, false] rfl rfl (any_of HT_.out (by kernel_rfl)) (fun _ _ _ h => h) (Or.inl ⟨by rfl, ?_⟩) ?_ ?_
        rotate_left
        ·intro w'
         go_simp
         with_reducible rfl
        rotate_left
        ·simp only [Act.put, List.setIfInBounds_toArray, List.set_cons_zero, List.set_cons_succ, i64_w, i32_w]
         rfl
        refine pure_ (i := 5) (N := some 155) (v := ?_) (a' := ?_) #[true, true, true, false, true, true, false, false, false, false, false, false, false, false, false] rfl rfl (any_of HT_.out (by kernel_rfl)) (fun _ _ _ h => h) (Or.inl ⟨by rfl, ?_⟩) ?_ ?_
        rotate_left
        ·intro w'
         go_simp
         with_reducible rfl
        rotate_left
        ·simp only [Act.put, List.setIfInBounds_toArray, List.set_cons_zero, List.set_cons_succ, i64_w, i32_w]
         rfl
        refine pure_ (i := 6) (N := some 156) (v := ?_) (a' := ?_) #[true, true, true, false, true, true, true, false, false, false, false, false, false, false, false] rfl rfl (any_of HT_.out (by kernel_rfl)) (fun _ _ _ h => h) (Or.inl ⟨by rfl, ?_⟩) ?_ ?_
        rotate_left
        ·intro w'
         go_simp
         with_reducible rfl
        rotate_left
        ·simp only [Act.put, List.setIfInBounds_toArray, List.set_cons_zero, List.set_cons_succ, i64_w, i32_w]
         rfl
        refine pure_ (i := 7) (N := some 157) (v := ?_) (a' := ?_) #[true, true, true, false, true, true, true, true, false, false, false, false, false, false, false] rfl rfl (any_of HT_.out (by kernel_rfl)) (fun _ _ _ h => h) (Or.inl ⟨by rfl, ?_⟩) ?_ ?_
        rotate_left
        ·intro w'
         go_simp
         with_reducible rfl
        rotate_left
        ·simp only [Act.put, List.setIfInBounds_toArray, List.set_cons_zero, List.set_cons_succ, i64_w, i32_w]
         rfl
        refine pure_ (i := 9) (N := some 159) (v := ?_) (a' := ?_) #[true, true, true, false, true, true, true, true, false, true, false, false, false, false, false] rfl rfl (any_of HT_.out (by kernel_rfl)) (fun _ _ _ h => h) (Or.inl ⟨by rfl, ?_⟩) ?_ ?_
        rotate_left
        ·intro w'
         go_simp
         with_reducible rfl
        rotate_left
        ·simp only [Act.put, List.setIfInBounds_toArray, List.set_cons_zero, List.set_cons_succ, i64_w, i32_w]
         rfl
        refine take_ (i := 3) (N := some 153) (v := ?_) (a' := ?_) #[true, true, true, true, true, true, true, true, false, true, false, false, false, false, false] rfl rfl (take_ofW HT_.out HW_.out (by kernel_rfl)) (fun _ _ _ h => h) (Or.inl ⟨by rfl, ?_⟩) hHeld ?_ ?_
        rotate_left
        ·rintro w' ⟨s0, s1⟩
         go_simp
         with_reducible rfl
        rotate_left
        ·simp only [Act.put, List.setIfInBounds_toArray, List.set_cons_zero, List.set_cons_succ, i64_w, i32_w]
         rfl
        refine take_ (i := 8) (N := some 158) (v := ?_) (a' := ?_) #[true, true, true, true, true, true, true, true, true, true, false, false, false, false, false] rfl rfl (take_ofW HT_.out HW_.out (by kernel_rfl)) (fun _ _ _ h => h) (Or.inl ⟨by rfl, ?_⟩) hHeld ?_ ?_
        rotate_left
        ·rintro w' ⟨s0, s1⟩
         go_simp
         with_reducible rfl
        rotate_left
        ·simp only [Act.put, List.setIfInBounds_toArray, List.set_cons_zero, List.set_cons_succ, i64_w, i32_w]
         rfl
        refine pure_ (i := 10) (N := some 160) (v := ?_) (a' := ?_) #[true, true, true, true, true, true, true, true, true, true, true, false, false, false, false] rfl rfl (any_of HT_.out (by kernel_rfl)) (fun _ _ _ h => h) (Or.inl ⟨by rfl, ?_⟩) ?_ ?_
        rotate_left
        ·intro w'
         go_simp
         with_reducible rfl
        rotate_left
        ·simp only [Act.put, List.setIfInBounds_toArray, List.set_cons_zero, List.set_cons_succ, i64_w, i32_w]
         rfl
        refine take_ (i := 11) (N := some 161) (v := ?_) (a' := ?_) #[true, true, true, true, true, true, true, true, true, true, true, true, false, false, false] rfl rfl (take_ofW HT_.out HW_.out (by kernel_rfl)) (fun _ _ _ h => h) (Or.inl ⟨by rfl, ?_⟩) hHeld ?_ ?_
        rotate_left
        ·rintro w' ⟨s0, s1⟩
         go_simp
         with_reducible rfl
        rotate_left
        ·simp only [Act.put, List.setIfInBounds_toArray, List.set_cons_zero, List.set_cons_succ, i64_w, i32_w]
         rfl
        refine pure_ (i := 12) (N := some 162) (v := ?_) (a' := ?_) #[true, true, true, true, true, true, true, true, true, true, true, true, true, false, false] rfl rfl (any_of HT_.out (by kernel_rfl)) (fun _ _ _ h => h) (Or.inl ⟨by rfl, ?_⟩) ?_ ?_
        rotate_left
        ·intro w'
         go_simp
         with_reducible rfl
        rotate_left
        ·simp only [Act.put, List.setIfInBounds_toArray, List.set_cons_zero, List.set_cons_succ, i64_w, i32_w]
         rfl
        refine pure_ (i := 13) (N := some 163) (v := ?_) (a' := ?_) #[true, true, true, true, true, true, true, true, true, true, true, true, true, true, false] rfl rfl (any_of HT_.out (by kernel_rfl)) (fun _ _ _ h => h) (Or.inl ⟨by rfl, ?_⟩) ?_ ?_
        rotate_left
        ·intro w'
         go_simp
         with_reducible rfl
        rotate_left
        ·simp only [Act.put, List.setIfInBounds_toArray, List.set_cons_zero, List.set_cons_succ, i64_w, i32_w]
         rfl
        refine last_ (i := 14) (N := none) #[true, true, true, true, true, true, true, true, true, true, true, true, true, true, true] rfl rfl (one_of HT_.out (by kernel_rfl)) (by decide) (fun K hK => ?_)
        refine skip_ (w1 := ?_) (by rfl) rfl ?_ ?_
        rotate_left
        ·go_simp
         rfl
        refine hK.out _ _ ?_
        clear hK K
        refine done_ (done_of HT_.out (by kernel_rfl)) ?_
        have HX2 := Aside0.mk (HXd.out.setw j (x - 1))
        have DO2 := Aside0.mk (Kd.R_far (p := ⟨gw, j, none⟩) DOd.out (fun k hk => fun e => by have h_ : gw < W.heap.size := LTS.out.2.1; rw [e] at hk; exact Nat.lt_irrefl _ (Nat.lt_of_lt_of_le h_ hk)) (.int .i64 (x - 1)))
        go_wp2_with fail
        go_roundg (n - (j + 1))
        case measure => omega
        case rel => exact ⟨j + 1, _, _, _, by go_num, ⟨⟨by omega, by omega⟩⟩, ⟨by rw [HDE.out]; exact HX2.out⟩, ⟨DO2.out⟩⟩
       ·rw [if_neg ho] at HDE
        generalize s.ws.getD j 0 = ou at kold ho
        have q3 : decide (ou > 0) = false := decide_eq_false ho
        have q3' : decide (0 < ou) = false := decide_eq_false ho
        go_wp2_with fail
        go_roundg (n - (j + 1))
        case measure => omega
        case rel => exact ⟨j + 1, _, _, _, by go_num, ⟨⟨by omega, by omega⟩⟩, ⟨by rw [HDE.out]; exact HX.out⟩, ⟨(by (with_reducible repeat (first | apply Kd.R_alloc | apply Kd.R_drewN | apply Kd.R_drew)); exact DO.out)⟩⟩
      ·have hje : n = j := by omega
       subst hje
       obtain ⟨d1, d2, d3, d4⟩ := Sk.decL_in s.ws HMI.out.1 (by have := HI.out.sl; omega) n (Nat.le_refl _)
       have hds := d4.trans HMI.out.2.1
       have hst : Sk.slot n s = { Sk.decL s.ws (s) n with slots := s.slots + 1 } := by unfold Sk.slot; rw [HMID.out]
       have HST := Aside0.mk hst
       have k2 := HX.out.flds.2.2.1
       have kf2 := HX.out.flds.2.2.2.2.2.2.2.2 2
       rw [hds] at k2
       have hsl := HI.out.sl
       have e1 : wrap64 (s.slots + 1) = s.slots + 1 := by unfold wrap64; omega
       have e2 : IntKind.i64.wrap (s.slots + 1) = s.slots + 1 := by rw [IntKind.wrap_i64]; omega
       have q1 : decide ((n : Int) < (n : Int)) = false := decide_eq_false (by omega)
       have q2 : (n < n) = False := eq_false (by omega)
       clear d1 d2 d3 d4 hst hds
       go_wp2_with fail
       go_end0
       refine ⟨rfl, vo2, Ad2, cd2, ?_⟩
       rw [HST.out]
       exact HX.out.own 2 (.int .i64 (s.slots + 1)) rfl rfl rfl rfl HX.out.ro HX.out.cdr HX.out.cdl
theorem spec_RunTalk.l1In (x a b : Int) : spec_l1In.f x a b = some (decide (a ≤ x ∧ x ≤ b)) := by
 unfold spec_l1In.f
 by_cases h : a ≤ x
 ·rw [if_pos h]; simp [h]
 ·rw [if_neg h]; simp [h]
theorem spec_RunTalk.tv0 (l : List Int) (hl : l.length ≤ 9223372036854775807) : ∀ d i : Nat, i + d = l.length → spec_TalkValid.l0 (d + 1) l (i : Int) = some ((l.drop i).all (fun n => decide (0 ≤ n ∧ n ≤ 9)) && decide ((l.length : Int) ≤ 6)) := by
 intro d
 induction d with
 | zero =>
  intro i hi
  rw [spec_TalkValid.l0, if_neg (by omega), List.drop_of_length_le (by omega)]
  rfl
 | succ d ih =>
  intro i hi
  have hil : i < l.length := by omega
  have hr : rd l (i : Int) = l[i] := by simp [rd, List.getD_eq_getElem?_getD, hil]
  have e2 : wrap64 ((i : Int) + 1) = ((i + 1 : Nat) : Int) := by unfold wrap64; omega
  rw [spec_TalkValid.l0, if_pos (by omega), if_pos (by omega), hr, e2, spec_RunTalk.l1In, Option.bind_some, List.drop_eq_getElem_cons hil, List.all_cons, ih (i + 1) (by omega)]
  cases decide (0 ≤ l[i] ∧ l[i] ≤ 9) <;> rfl
theorem spec_RunTalk.tv (l : List Int) (hl : l.length ≤ 9223372036854775807) : spec_TalkValid.f (l.length + 1) l = some (spec_RunTalk.b1 l) := by
 have h := spec_RunTalk.tv0 l hl l.length 0 (by omega)
 rw [List.drop_zero, Bool.and_comm] at h
 exact h
theorem spec_RunTalk.take_all {p : Int → Bool} {l : List Int} {j : Nat} (h : j < l.length) : (l.take (j + 1)).all p = ((l.take j).all p && p (rd l (j : Int))) := by
 rw [List.take_succ_eq_append_getElem h, List.all_append]
 simp [rd, List.getD_eq_getElem?_getD, h]
theorem spec_RunTalk.all_off {p : Int → Bool} {l : List Int} {j : Nat} (h : j < l.length) (hp : p (rd l (j : Int)) = false) : l.all p = false := by
 rw [List.all_eq_false]
 refine ⟨l[j], List.getElem_mem h, ?_⟩
 rw [show rd l (j : Int) = l[j] by simp [rd, List.getD_eq_getElem?_getD, h]] at hp
 rw [hp]; decide
theorem spec_RunTalk.inv0 {l0 l1 : List Int} (h0 : spec_RunTalk.b1 l0 = true) (h1 : spec_RunTalk.b3 l1 = true) : Sk.Inv l0.length ⟨[], 0, 0, l0, List.replicate l0.length 0, List.replicate l0.length 0, l1⟩ := by
 unfold spec_RunTalk.b1 at h0
 unfold spec_RunTalk.b3 at h1
 rw [Bool.and_eq_true, decide_eq_true_eq, List.all_eq_true] at h0
 rw [List.all_eq_true] at h1
 have hz : ∀ i : Nat, i < (List.replicate l0.length (0 : Int)).length → (List.replicate l0.length (0 : Int)).getD i 0 = 0 := fun i hi => by
  have hi' : i < l0.length := by simpa using hi
  simp [List.getD_eq_getElem?_getD, hi']
 refine ⟨by omega, ⟨Int.le_refl _, by show (0 : Int) ≤ 2000; omega⟩, ⟨rfl, by simp, by simp, fun i hi => ?_, fun i hi => ?_, fun i hi => ?_, fun d hd => by simpa using h1 d hd⟩, ⟨Int.le_refl _, Int.le_refl _⟩, Int.le_refl _⟩
 ·have hi : i < l0.length := hi
  have hx := h0.2 _ (List.getElem_mem hi)
  rw [decide_eq_true_eq] at hx
  show -(20 * (0 : Int)) ≤ l0.getD i 0 ∧ l0.getD i 0 ≤ 9
  rw [show l0.getD i 0 = l0[i] by simp [List.getD_eq_getElem?_getD, hi]]
  omega
 ·show -(20 * (0 : Int)) ≤ (List.replicate l0.length (0 : Int)).getD i 0 ∧ (List.replicate l0.length (0 : Int)).getD i 0 ≤ 1000
  rw [hz i hi]; omega
 ·show 0 ≤ (List.replicate l0.length (0 : Int)).getD i 0 ∧ (List.replicate l0.length (0 : Int)).getD i 0 ≤ 20 * (0 : Int)
  rw [hz i hi]; omega
theorem spec_RunTalk.form {base : Nat} {w : World} {ok : Nat → Prop} {v : Value} {xs : List Int} (h : Kd.R (Kd.int .i64) 3 w base ok v xs) (hb : ∃ b, v.ownBlock = some b) : ∃ g cap, v = .slice (some ⟨g, 0, none⟩) xs.length cap ∧ v.ownBlock = some g := by
 obtain ⟨inner, ho⟩ := Kd.R_own h
 obtain ⟨h1, h2⟩ := ho
 rcases h2 with ⟨he, h0⟩ | ⟨g, cap, cur, he, hb', _⟩
 ·obtain ⟨b, hb⟩ := hb
  rw [he] at hb
  simp [Value.ownBlock] at hb
 ·exact ⟨g, cap, he, by rw [he]; simp [Value.ownBlock]⟩
theorem spec_RunTalk.apart {v1 v2 : Value} (h : ∀ k, v1.ownBlock = some k → some k ≠ v2.ownBlock) : v1.ownBlock = none ∨ v1.ownBlock ≠ v2.ownBlock := by
 cases e : v1.ownBlock with
 | none => exact .inl rfl
 | some k => exact .inr (h k e)
theorem spec_RunTalk.sum_ok {n : Nat} {s : Sk.Sp} (h : Sk.Inv n s) : spec_l9Sum.f (n + 1) s.qs = some s.qs.sum := by
 have h1 := h.ins.lq
 have h2 := h.n6
 have h3 := h.sl
 have := Sk.sum_eq s.qs (by omega) (h.ins.q.mono (by omega) (Int.le_refl _))
 rw [h1] at this
 exact this
theorem spec_RunTalk.sumc {w W : World} {gT gq gw gt cq cw ct n : Nat} {s : Sk.Sp} {vo : Value} {Ad : Option Addr} {cd : Nat} (h : Sk.Fc w W gT gq gw gt cq cw ct n s vo Ad cd) (hI : Sk.Inv n s) :
  Calls Try.prog 36 #[.slice (some ⟨gq, 0, none⟩) n cq] W fun e w' => e = .returned (.int .i64 s.qs.sum) ∧ Drawn0 W w' := by
 have h2 := Kd.R_reads' h.rq
 have h3 := h.lens.1
 have h4 := spec_l9Sum.calls (n + 1) (some ⟨gq, 0, none⟩) cq s.qs s.qs.sum W h2.2.2 (by omega) (spec_RunTalk.sum_ok hI)
 rw [h3] at h4
 exact h4
theorem spec_RunTalk.sum_pos {n : Nat} {s : Sk.Sp} (h : Sk.Inv n s) (hp : 0 < s.qs.sum) : 1 ≤ n := by
 rcases Nat.eq_zero_or_pos n with h0 | h0
 ·have h1 := h.ins.lq
  rw [h0] at h1
  rw [List.eq_nil_of_length_eq_zero h1] at hp
  simp at hp
 ·exact h0
set_option maxHeartbeats 16000000 in
set_option maxRecDepth 100000 in
theorem spec_RunTalk.calls (A0 : Option Addr) (c0 : Nat) (l0 : List Int) (A1 : Option Addr) (c1 : Nat) (l1 : List Int) (a2 : Int) (r1 : List Int) (r2 : Int) (r3 : Int) (r4 : Bool) (r5 : Bool) (w : World) (hr0 : Kd.C (Kd.int .i64) w A0 l0.length l0) (hc0 : l0.length ≤ c0) (hr1 : Kd.C (Kd.int .i64) w A1 l1.length l1) (hc1 : l1.length ≤ c1) (h : spec_RunTalk.f l0 l1 a2 = some (r1, r2, r3, r4, r5)) :
  Calls Try.prog 11 #[.slice A0 l0.length c0, .slice A1 l1.length c1, .int .i64 a2] w fun e w' => ∃ v0_ : Value, e = .returned (.tuple #[.agg #[v0_, .int .i64 r2, .int .i64 r3, .bool r4], .bool r5]) ∧ Kd.R (Kd.int .i64) 3 w' w.heap.size (fun _ => True) v0_ r1 ∧ Below w.heap.size w w' := by
 unfold spec_RunTalk.f at h
 have HH := Aside0.mk h
 have HR0 := Aside0.mk hr0
 have HR1 := Aside0.mk hr1
 have HC0 := Aside0.mk hc0
 have HC1 := Aside0.mk hc1
 have HB0 := Aside0.mk (Below.refl w.heap.size w)
 have hl0 : l0.length ≤ 9223372036854775807 := hr0.2.1
 have hl1 : l1.length ≤ 9223372036854775807 := hr1.2.1
 have HV := Aside0.mk (spec_RunTalk.tv l0 hl0)
 clear hr0 hr1 hc0 hc1 h
 go_enter Try.func11, Try.ntmps11
 go_wp2_with (first | ((with_reducible refine gate_dst (N := 6) rfl ?_); refine box_event ?hg (N := 6) ?hd (cs := #[.slice none 0 0, .int .i64 0, .int .i64 0, .bool false]) (t := 28) ?hr ?_; (case hd => rfl); (case hg => rfl); (case hr => first | (go_simp; done) | (go_simp; rfl)); intro g6 hg w1 hbox hb; have GE6 := Aside0.mk (show w.heap.size ≤ g6 from by rw [hg]; exact below_size (by repeat (first | (with_reducible first | exact HB0.out | apply below_alloc | apply pw_below_drewN | apply below_drew1) | exact HB0.out))); have BK6 := Aside0.mk hbox; have HB1 := Aside0.mk (below_step (by repeat (first | (with_reducible first | exact HB0.out | apply below_alloc | apply pw_below_drewN | apply below_drew1) | exact HB0.out)) hb); clear hbox hb hg HB0))
 go_loopg [8] l1.length (fun kq v8 wr => ∃ j : Nat, v8 = .int .i64 (j : Int) ∧ Aside0 (j ≤ l1.length ∧ l1.length - j ≤ kq) ∧ Aside0 ((l1.take j).all (fun n => decide (0 ≤ n ∧ n ≤ 1000)) = true) ∧ Aside0 (wr.heap[g6]? = some (.cells #[.slice none 0 0, .int .i64 0, .int .i64 0, .bool false] 28 (0, 0))) ∧ Aside0 (Below w.heap.size w wr))
 case atStart => exact ⟨0, rfl, ⟨⟨Nat.zero_le _, by omega⟩⟩, ⟨by simp⟩, ⟨(by (with_reducible repeat (first | refine blk_drewN ?_ _ | refine blk_drew ?_ | refine blk_alloc ?_ _)); exact BK6.out)⟩, ⟨(by repeat (first | (with_reducible first | exact HB1.out | apply below_alloc | apply pw_below_drewN | apply below_drew1) | exact HB1.out))⟩⟩
 case round =>
  clear BK6 HB1
  obtain ⟨j, rfl, HJ, HA, BK6, HB1⟩ := hrel
  have hj := HJ.out
  by_cases hlt : j < l1.length
  ·have q1 : decide ((j : Int) < (l1.length : Int)) = true := decide_eq_true (by omega)
   have q2 : (j < l1.length) = True := eq_true hlt
   obtain ⟨adD, eD, hxD⟩ := Kd.at_int (Kd.C_below HR1.out HB1.out) (j : Int) (by omega) (by omega)
   cases eD
   rw [Int.toNat_natCast] at hxD
   have HT := Aside0.mk (spec_RunTalk.take_all (p := fun n => decide (0 ≤ n ∧ n ≤ 1000)) hlt)
   have HO := Aside0.mk (spec_RunTalk.all_off (p := fun n => decide (0 ≤ n ∧ n ≤ 1000)) hlt)
   generalize rd l1 (j : Int) = x at hxD HT HO
   have HW := Aside0.mk (spec_RunTalk.l1In x 0 1000)
   cases hq : decide (0 ≤ x ∧ x ≤ 1000)
   ·rw [hq] at HW
    have HF := Aside0.mk (HO.out hq)
    clear hq HT HO
    go_wp2_with fail
    refine (spec_l1In.calls x 0 1000 _ _ HW.out).mono ?_
    rintro e w2 ⟨rfl, hd⟩
    have b6_ := Aside0.mk (blk_below (by (with_reducible repeat (first | refine blk_drewN ?_ _ | refine blk_drew ?_ | refine blk_alloc ?_ _)); exact BK6.out) hd.below)
    have hb_ := Aside0.mk (below_step (by repeat (first | (with_reducible first | exact HB1.out | apply below_alloc | apply pw_below_drewN | apply below_drew1) | exact HB1.out)) hd.below)
    clear BK6 HB1 hd
    have BK6 := b6_
    have HB1 := hb_
    clear b6_ hb_
    have hz0 := (blk_cell (by (with_reducible repeat (first | refine blk_drewN ?_ _ | refine blk_drew ?_ | refine blk_alloc ?_ _)); exact BK6.out) 0).trans rfl
    have hf0 := blk_frozen (by (with_reducible repeat (first | refine blk_drewN ?_ _ | refine blk_drew ?_ | refine blk_alloc ?_ _)); exact BK6.out) 0
    have hz1 := (blk_cell (by (with_reducible repeat (first | refine blk_drewN ?_ _ | refine blk_drew ?_ | refine blk_alloc ?_ _)); exact BK6.out) 1).trans rfl
    have hf1 := blk_frozen (by (with_reducible repeat (first | refine blk_drewN ?_ _ | refine blk_drew ?_ | refine blk_alloc ?_ _)); exact BK6.out) 1
    have hz2 := (blk_cell (by (with_reducible repeat (first | refine blk_drewN ?_ _ | refine blk_drew ?_ | refine blk_alloc ?_ _)); exact BK6.out) 2).trans rfl
    have hf2 := blk_frozen (by (with_reducible repeat (first | refine blk_drewN ?_ _ | refine blk_drew ?_ | refine blk_alloc ?_ _)); exact BK6.out) 2
    have hz3 := (blk_cell (by (with_reducible repeat (first | refine blk_drewN ?_ _ | refine blk_drew ?_ | refine blk_alloc ?_ _)); exact BK6.out) 3).trans rfl
    have hf3 := blk_frozen (by (with_reducible repeat (first | refine blk_drewN ?_ _ | refine blk_drew ?_ | refine blk_alloc ?_ _)); exact BK6.out) 3
    have h := HH.out
    rw [if_neg (fun hc => by have h3 := hc.2.2.1; unfold spec_RunTalk.b3 at h3; rw [HF.out] at h3; cases h3)] at h
    simp only [Option.some.injEq, Prod.mk.injEq] at h
    obtain ⟨rfl, rfl, rfl, rfl, rfl⟩ := h
    go_wp2_with fail
    refine bodyPost_ret (results_ct rfl _ _ g6 28 #[.slice none 0 0, .int .i64 0, .int .i64 0, .bool false] (0, 0) _ rfl (by (with_reducible repeat (first | refine blk_drewN ?_ _ | refine blk_drew ?_ | refine blk_alloc ?_ _)); refine blk_put (cs := #[.slice none 0 0, .int .i64 0, .int .i64 0, .bool false]) ?_ 3 _ rfl; (with_reducible repeat (first | refine blk_drewN ?_ _ | refine blk_drew ?_ | refine blk_alloc ?_ _)); refine blk_put (cs := #[.slice none 0 0, .int .i64 0, .int .i64 0, .bool false]) ?_ 2 _ rfl; (with_reducible repeat (first | refine blk_drewN ?_ _ | refine blk_drew ?_ | refine blk_alloc ?_ _)); refine blk_put (cs := #[.slice none 0 0, .int .i64 0, .int .i64 0, .bool false]) ?_ 1 _ rfl; (with_reducible repeat (first | refine blk_drewN ?_ _ | refine blk_drew ?_ | refine blk_alloc ?_ _)); refine blk_put (cs := #[.slice none 0 0, .int .i64 0, .int .i64 0, .bool false]) ?_ 0 _ rfl; (with_reducible repeat (first | refine blk_drewN ?_ _ | refine blk_drew ?_ | refine blk_alloc ?_ _)); exact BK6.out) Try.underlying28 rfl (by kernel_rfl)) rfl ?_
    exact ⟨_, rfl, Kd.R_nil _ _ _ _ _, (by repeat (first | (with_reducible first | exact HB1.out | apply below_alloc | apply pw_below_drewN | apply below_drew1 | refine below_set ?_ GE6.out) | exact HB1.out))⟩
   ·rw [hq] at HW
    have HF := Aside0.mk (show (l1.take (j + 1)).all (fun n => decide (0 ≤ n ∧ n ≤ 1000)) = true from HT.out.trans (by rw [HA.out, Bool.true_and]; exact hq))
    clear hq HT HO HA
    go_wp2_with fail
    refine (spec_l1In.calls x 0 1000 _ _ HW.out).mono ?_
    rintro e w2 ⟨rfl, hd⟩
    have b6_ := Aside0.mk (blk_below (by (with_reducible repeat (first | refine blk_drewN ?_ _ | refine blk_drew ?_ | refine blk_alloc ?_ _)); exact BK6.out) hd.below)
    have hb_ := Aside0.mk (below_step (by repeat (first | (with_reducible first | exact HB1.out | apply below_alloc | apply pw_below_drewN | apply below_drew1) | exact HB1.out)) hd.below)
    clear BK6 HB1 hd
    have BK6 := b6_
    have HB1 := hb_
    clear b6_ hb_
    go_wp2_with fail
    go_roundg (l1.length - (j + 1))
    case measure => omega
    case rel => exact ⟨j + 1, by go_num, ⟨⟨by omega, by omega⟩⟩, ⟨HF.out⟩, ⟨(by (with_reducible repeat (first | refine blk_drewN ?_ _ | refine blk_drew ?_ | refine blk_alloc ?_ _)); exact BK6.out)⟩, ⟨(by repeat (first | (with_reducible first | exact HB1.out | apply below_alloc | apply pw_below_drewN | apply below_drew1) | exact HB1.out))⟩⟩
  ·have hje : j = l1.length := by omega
   subst hje
   have hb3 : spec_RunTalk.b3 l1 = true := by have h := HA.out; rw [List.take_length] at h; exact h
   have HB3 := Aside0.mk hb3
   clear hb3 HA
   have q1 : decide ((l1.length : Int) < (l1.length : Int)) = false := decide_eq_false (by omega)
   have q2 : (l1.length < l1.length) = False := eq_false (by omega)
   cases hb1 : spec_RunTalk.b1 l0
   ·rw [hb1] at HV
    have HF := Aside0.mk hb1
    clear hb1
    go_wp2_with fail
    refine (spec_TalkValid.calls (l0.length + 1) A0 c0 l0 _ _ (Kd.C_below HR0.out (by repeat (first | (with_reducible first | exact HB1.out | apply below_alloc | apply pw_below_drewN | apply below_drew1) | exact HB1.out))) HC0.out HV.out).mono ?_
    rintro e w2 ⟨rfl, hd⟩
    have b6_ := Aside0.mk (blk_below (by (with_reducible repeat (first | refine blk_drewN ?_ _ | refine blk_drew ?_ | refine blk_alloc ?_ _)); exact BK6.out) hd.below)
    have hb_ := Aside0.mk (below_step (by repeat (first | (with_reducible first | exact HB1.out | apply below_alloc | apply pw_below_drewN | apply below_drew1) | exact HB1.out)) hd.below)
    clear BK6 HB1 hd
    have BK6 := b6_
    have HB1 := hb_
    clear b6_ hb_
    have hz0 := (blk_cell (by (with_reducible repeat (first | refine blk_drewN ?_ _ | refine blk_drew ?_ | refine blk_alloc ?_ _)); exact BK6.out) 0).trans rfl
    have hf0 := blk_frozen (by (with_reducible repeat (first | refine blk_drewN ?_ _ | refine blk_drew ?_ | refine blk_alloc ?_ _)); exact BK6.out) 0
    have hz1 := (blk_cell (by (with_reducible repeat (first | refine blk_drewN ?_ _ | refine blk_drew ?_ | refine blk_alloc ?_ _)); exact BK6.out) 1).trans rfl
    have hf1 := blk_frozen (by (with_reducible repeat (first | refine blk_drewN ?_ _ | refine blk_drew ?_ | refine blk_alloc ?_ _)); exact BK6.out) 1
    have hz2 := (blk_cell (by (with_reducible repeat (first | refine blk_drewN ?_ _ | refine blk_drew ?_ | refine blk_alloc ?_ _)); exact BK6.out) 2).trans rfl
    have hf2 := blk_frozen (by (with_reducible repeat (first | refine blk_drewN ?_ _ | refine blk_drew ?_ | refine blk_alloc ?_ _)); exact BK6.out) 2
    have hz3 := (blk_cell (by (with_reducible repeat (first | refine blk_drewN ?_ _ | refine blk_drew ?_ | refine blk_alloc ?_ _)); exact BK6.out) 3).trans rfl
    have hf3 := blk_frozen (by (with_reducible repeat (first | refine blk_drewN ?_ _ | refine blk_drew ?_ | refine blk_alloc ?_ _)); exact BK6.out) 3
    have h := HH.out
    rw [if_neg (fun hc => by have h3 := hc.1; rw [HF.out] at h3; cases h3)] at h
    simp only [Option.some.injEq, Prod.mk.injEq] at h
    obtain ⟨rfl, rfl, rfl, rfl, rfl⟩ := h
    go_wp2_with fail
    refine bodyPost_ret (results_ct rfl _ _ g6 28 #[.slice none 0 0, .int .i64 0, .int .i64 0, .bool false] (0, 0) _ rfl (by (with_reducible repeat (first | refine blk_drewN ?_ _ | refine blk_drew ?_ | refine blk_alloc ?_ _)); refine blk_put (cs := #[.slice none 0 0, .int .i64 0, .int .i64 0, .bool false]) ?_ 3 _ rfl; (with_reducible repeat (first | refine blk_drewN ?_ _ | refine blk_drew ?_ | refine blk_alloc ?_ _)); refine blk_put (cs := #[.slice none 0 0, .int .i64 0, .int .i64 0, .bool false]) ?_ 2 _ rfl; (with_reducible repeat (first | refine blk_drewN ?_ _ | refine blk_drew ?_ | refine blk_alloc ?_ _)); refine blk_put (cs := #[.slice none 0 0, .int .i64 0, .int .i64 0, .bool false]) ?_ 1 _ rfl; (with_reducible repeat (first | refine blk_drewN ?_ _ | refine blk_drew ?_ | refine blk_alloc ?_ _)); refine blk_put (cs := #[.slice none 0 0, .int .i64 0, .int .i64 0, .bool false]) ?_ 0 _ rfl; (with_reducible repeat (first | refine blk_drewN ?_ _ | refine blk_drew ?_ | refine blk_alloc ?_ _)); exact BK6.out) Try.underlying28 rfl (by kernel_rfl)) rfl ?_
    exact ⟨_, rfl, Kd.R_nil _ _ _ _ _, (by repeat (first | (with_reducible first | exact HB1.out | apply below_alloc | apply pw_below_drewN | apply below_drew1 | refine below_set ?_ GE6.out) | exact HB1.out))⟩
   ·rw [hb1] at HV
    have HF := Aside0.mk hb1
    clear hb1
    by_cases h200 : (l1.length : Int) ≤ 200
    rotate_left 1
    ·have q3 : decide ((l1.length : Int) > 200) = true := decide_eq_true (by omega)
     have q3' : decide (200 < l1.length) = true := decide_eq_true (by omega)
     have q3p : (200 < l1.length) = True := eq_true (by omega)
     go_wp2_with fail
     refine (spec_TalkValid.calls (l0.length + 1) A0 c0 l0 _ _ (Kd.C_below HR0.out (by repeat (first | (with_reducible first | exact HB1.out | apply below_alloc | apply pw_below_drewN | apply below_drew1) | exact HB1.out))) HC0.out HV.out).mono ?_
     rintro e w2 ⟨rfl, hd⟩
     have b6_ := Aside0.mk (blk_below (by (with_reducible repeat (first | refine blk_drewN ?_ _ | refine blk_drew ?_ | refine blk_alloc ?_ _)); exact BK6.out) hd.below)
     have hb_ := Aside0.mk (below_step (by repeat (first | (with_reducible first | exact HB1.out | apply below_alloc | apply pw_below_drewN | apply below_drew1) | exact HB1.out)) hd.below)
     clear BK6 HB1 hd
     have BK6 := b6_
     have HB1 := hb_
     clear b6_ hb_
     have hz0 := (blk_cell (by (with_reducible repeat (first | refine blk_drewN ?_ _ | refine blk_drew ?_ | refine blk_alloc ?_ _)); exact BK6.out) 0).trans rfl
     have hf0 := blk_frozen (by (with_reducible repeat (first | refine blk_drewN ?_ _ | refine blk_drew ?_ | refine blk_alloc ?_ _)); exact BK6.out) 0
     have hz1 := (blk_cell (by (with_reducible repeat (first | refine blk_drewN ?_ _ | refine blk_drew ?_ | refine blk_alloc ?_ _)); exact BK6.out) 1).trans rfl
     have hf1 := blk_frozen (by (with_reducible repeat (first | refine blk_drewN ?_ _ | refine blk_drew ?_ | refine blk_alloc ?_ _)); exact BK6.out) 1
     have hz2 := (blk_cell (by (with_reducible repeat (first | refine blk_drewN ?_ _ | refine blk_drew ?_ | refine blk_alloc ?_ _)); exact BK6.out) 2).trans rfl
     have hf2 := blk_frozen (by (with_reducible repeat (first | refine blk_drewN ?_ _ | refine blk_drew ?_ | refine blk_alloc ?_ _)); exact BK6.out) 2
     have hz3 := (blk_cell (by (with_reducible repeat (first | refine blk_drewN ?_ _ | refine blk_drew ?_ | refine blk_alloc ?_ _)); exact BK6.out) 3).trans rfl
     have hf3 := blk_frozen (by (with_reducible repeat (first | refine blk_drewN ?_ _ | refine blk_drew ?_ | refine blk_alloc ?_ _)); exact BK6.out) 3
     have h := HH.out
     rw [if_neg (fun hc => by have := hc.2.1; omega)] at h
     simp only [Option.some.injEq, Prod.mk.injEq] at h
     obtain ⟨rfl, rfl, rfl, rfl, rfl⟩ := h
     go_wp2_with fail
     refine bodyPost_ret (results_ct rfl _ _ g6 28 #[.slice none 0 0, .int .i64 0, .int .i64 0, .bool false] (0, 0) _ rfl (by (with_reducible repeat (first | refine blk_drewN ?_ _ | refine blk_drew ?_ | refine blk_alloc ?_ _)); refine blk_put (cs := #[.slice none 0 0, .int .i64 0, .int .i64 0, .bool false]) ?_ 3 _ rfl; (with_reducible repeat (first | refine blk_drewN ?_ _ | refine blk_drew ?_ | refine blk_alloc ?_ _)); refine blk_put (cs := #[.slice none 0 0, .int .i64 0, .int .i64 0, .bool false]) ?_ 2 _ rfl; (with_reducible repeat (first | refine blk_drewN ?_ _ | refine blk_drew ?_ | refine blk_alloc ?_ _)); refine blk_put (cs := #[.slice none 0 0, .int .i64 0, .int .i64 0, .bool false]) ?_ 1 _ rfl; (with_reducible repeat (first | refine blk_drewN ?_ _ | refine blk_drew ?_ | refine blk_alloc ?_ _)); refine blk_put (cs := #[.slice none 0 0, .int .i64 0, .int .i64 0, .bool false]) ?_ 0 _ rfl; (with_reducible repeat (first | refine blk_drewN ?_ _ | refine blk_drew ?_ | refine blk_alloc ?_ _)); exact BK6.out) Try.underlying28 rfl (by kernel_rfl)) rfl ?_
     exact ⟨_, rfl, Kd.R_nil _ _ _ _ _, (by repeat (first | (with_reducible first | exact HB1.out | apply below_alloc | apply pw_below_drewN | apply below_drew1 | refine below_set ?_ GE6.out) | exact HB1.out))⟩
    have q3 : decide ((l1.length : Int) > 200) = false := decide_eq_false (by omega)
    have q3' : decide (200 < l1.length) = false := decide_eq_false (by omega)
    have q3p : (200 < l1.length) = False := eq_false (by omega)
    have HL := Aside0.mk h200
    clear h200
    have hi4 : spec_l1In.f a2 0 2000 = some (spec_RunTalk.inB a2 0 2000) := spec_RunTalk.l1In a2 0 2000
    cases hb4 : spec_RunTalk.inB a2 0 2000
    ·rw [hb4] at hi4
     have HI4 := Aside0.mk hi4
     have HF4 := Aside0.mk hb4
     clear hi4 hb4
     go_wp2_with fail
     refine (spec_TalkValid.calls (l0.length + 1) A0 c0 l0 _ _ (Kd.C_below HR0.out (by repeat (first | (with_reducible first | exact HB1.out | apply below_alloc | apply pw_below_drewN | apply below_drew1) | exact HB1.out))) HC0.out HV.out).mono ?_
     rintro e w2 ⟨rfl, hd⟩
     have b6_ := Aside0.mk (blk_below (by (with_reducible repeat (first | refine blk_drewN ?_ _ | refine blk_drew ?_ | refine blk_alloc ?_ _)); exact BK6.out) hd.below)
     have hb_ := Aside0.mk (below_step (by repeat (first | (with_reducible first | exact HB1.out | apply below_alloc | apply pw_below_drewN | apply below_drew1) | exact HB1.out)) hd.below)
     clear BK6 HB1 hd
     have BK6 := b6_
     have HB1 := hb_
     clear b6_ hb_
     go_wp2_with fail
     refine (spec_l1In.calls a2 0 2000 _ _ HI4.out).mono ?_
     rintro e w3 ⟨rfl, hd⟩
     have b6_ := Aside0.mk (blk_below (by (with_reducible repeat (first | refine blk_drewN ?_ _ | refine blk_drew ?_ | refine blk_alloc ?_ _)); exact BK6.out) hd.below)
     have hb_ := Aside0.mk (below_step (by repeat (first | (with_reducible first | exact HB1.out | apply below_alloc | apply pw_below_drewN | apply below_drew1) | exact HB1.out)) hd.below)
     clear BK6 HB1 hd
     have BK6 := b6_
     have HB1 := hb_
     clear b6_ hb_
     have hz0 := (blk_cell (by (with_reducible repeat (first | refine blk_drewN ?_ _ | refine blk_drew ?_ | refine blk_alloc ?_ _)); exact BK6.out) 0).trans rfl
     have hf0 := blk_frozen (by (with_reducible repeat (first | refine blk_drewN ?_ _ | refine blk_drew ?_ | refine blk_alloc ?_ _)); exact BK6.out) 0
     have hz1 := (blk_cell (by (with_reducible repeat (first | refine blk_drewN ?_ _ | refine blk_drew ?_ | refine blk_alloc ?_ _)); exact BK6.out) 1).trans rfl
     have hf1 := blk_frozen (by (with_reducible repeat (first | refine blk_drewN ?_ _ | refine blk_drew ?_ | refine blk_alloc ?_ _)); exact BK6.out) 1
     have hz2 := (blk_cell (by (with_reducible repeat (first | refine blk_drewN ?_ _ | refine blk_drew ?_ | refine blk_alloc ?_ _)); exact BK6.out) 2).trans rfl
     have hf2 := blk_frozen (by (with_reducible repeat (first | refine blk_drewN ?_ _ | refine blk_drew ?_ | refine blk_alloc ?_ _)); exact BK6.out) 2
     have hz3 := (blk_cell (by (with_reducible repeat (first | refine blk_drewN ?_ _ | refine blk_drew ?_ | refine blk_alloc ?_ _)); exact BK6.out) 3).trans rfl
     have hf3 := blk_frozen (by (with_reducible repeat (first | refine blk_drewN ?_ _ | refine blk_drew ?_ | refine blk_alloc ?_ _)); exact BK6.out) 3
     have h := HH.out
     rw [if_neg (fun hc => by have h3 := hc.2.2.2; rw [HF4.out] at h3; cases h3)] at h
     simp only [Option.some.injEq, Prod.mk.injEq] at h
     obtain ⟨rfl, rfl, rfl, rfl, rfl⟩ := h
     go_wp2_with fail
     refine bodyPost_ret (results_ct rfl _ _ g6 28 #[.slice none 0 0, .int .i64 0, .int .i64 0, .bool false] (0, 0) _ rfl (by (with_reducible repeat (first | refine blk_drewN ?_ _ | refine blk_drew ?_ | refine blk_alloc ?_ _)); refine blk_put (cs := #[.slice none 0 0, .int .i64 0, .int .i64 0, .bool false]) ?_ 3 _ rfl; (with_reducible repeat (first | refine blk_drewN ?_ _ | refine blk_drew ?_ | refine blk_alloc ?_ _)); refine blk_put (cs := #[.slice none 0 0, .int .i64 0, .int .i64 0, .bool false]) ?_ 2 _ rfl; (with_reducible repeat (first | refine blk_drewN ?_ _ | refine blk_drew ?_ | refine blk_alloc ?_ _)); refine blk_put (cs := #[.slice none 0 0, .int .i64 0, .int .i64 0, .bool false]) ?_ 1 _ rfl; (with_reducible repeat (first | refine blk_drewN ?_ _ | refine blk_drew ?_ | refine blk_alloc ?_ _)); refine blk_put (cs := #[.slice none 0 0, .int .i64 0, .int .i64 0, .bool false]) ?_ 0 _ rfl; (with_reducible repeat (first | refine blk_drewN ?_ _ | refine blk_drew ?_ | refine blk_alloc ?_ _)); exact BK6.out) Try.underlying28 rfl (by kernel_rfl)) rfl ?_
     exact ⟨_, rfl, Kd.R_nil _ _ _ _ _, (by repeat (first | (with_reducible first | exact HB1.out | apply below_alloc | apply pw_below_drewN | apply below_drew1 | refine below_set ?_ GE6.out) | exact HB1.out))⟩
    rw [hb4] at hi4
    have HI4 := Aside0.mk hi4
    have h := HH.out
    rw [if_pos ⟨HF.out, HL.out, HB3.out, hb4⟩] at h
    simp only [Option.some.injEq, Prod.mk.injEq] at h
    have HE := Aside0.mk h
    have ha2 : 0 ≤ a2 ∧ a2 ≤ 2000 := of_decide_eq_true hb4
    have hn6 : l0.length ≤ 6 := by have h1 := HF.out; unfold spec_RunTalk.b1 at h1; rw [Bool.and_eq_true, decide_eq_true_eq] at h1; omega
    have HI0 := Aside0.mk (spec_RunTalk.inv0 HF.out HB3.out)
    clear hi4 hb4 h HH
    go_wp2_with fail
    refine (spec_TalkValid.calls (l0.length + 1) A0 c0 l0 _ _ (Kd.C_below HR0.out (by repeat (first | (with_reducible first | exact HB1.out | apply below_alloc | apply pw_below_drewN | apply below_drew1) | exact HB1.out))) HC0.out HV.out).mono ?_
    rintro e w2 ⟨rfl, hd⟩
    have b6_ := Aside0.mk (blk_below (by (with_reducible repeat (first | refine blk_drewN ?_ _ | refine blk_drew ?_ | refine blk_alloc ?_ _)); exact BK6.out) hd.below)
    have hb_ := Aside0.mk (below_step (by repeat (first | (with_reducible first | exact HB1.out | apply below_alloc | apply pw_below_drewN | apply below_drew1) | exact HB1.out)) hd.below)
    clear BK6 HB1 hd
    have BK6 := b6_
    have HB1 := hb_
    clear b6_ hb_
    go_wp2_with fail
    refine (spec_l1In.calls a2 0 2000 _ _ HI4.out).mono ?_
    rintro e w3 ⟨rfl, hd⟩
    have b6_ := Aside0.mk (blk_below (by (with_reducible repeat (first | refine blk_drewN ?_ _ | refine blk_drew ?_ | refine blk_alloc ?_ _)); exact BK6.out) hd.below)
    have hb_ := Aside0.mk (below_step (by repeat (first | (with_reducible first | exact HB1.out | apply below_alloc | apply pw_below_drewN | apply below_drew1) | exact HB1.out)) hd.below)
    clear BK6 HB1 hd
    have BK6 := b6_
    have HB1 := hb_
    clear b6_ hb_
    go_wp2_with fail
    have BK9 := Aside0.mk (blk_drew (by (with_reducible repeat (first | refine blk_drewN ?_ _ | refine blk_drew ?_ | refine blk_alloc ?_ _)); exact BK6.out))
    have HB9 := Aside0.mk (below_drew1 (by repeat (first | (with_reducible first | exact HB1.out | apply below_alloc | apply pw_below_drewN | apply below_drew1) | exact HB1.out)))
    have KR0 := Aside0.mk (Kd.C_below HR0.out HB9.out)
    have KR1 := Aside0.mk (Kd.C_below HR1.out HB9.out)
    clear BK6 HB1
    refine start_ (n := 13) (S := fun w' => True) (ds := []) #[false, false, false, false, false, false, false, false, false, false, false, false, false] (by kernel_rfl) rfl rfl trivial (fun hHeld => ?_); refine with_tabW spec_RunTalk.tab9 spec_RunTalk.bits9 (fun HT_ HW_ => ?_)
    generalize World.drew _ = w9 at BK9 HB9 KR0 KR1 hHeld ⊢
    have BEL := Aside0.mk (Below.refl w9.heap.size w9)
    refine pure_ (i := 1) (N := some 41) (v := ?_) (a' := ?_) #[false, true, false, false, false, false, false, false, false, false, false, false, false] rfl rfl (any_of HT_.out (by kernel_rfl)) (fun _ _ _ h => h) (Or.inl ⟨by rfl, ?_⟩) ?_ ?_
    rotate_left
    ·intro w'
     go_simp
     with_reducible rfl
    rotate_left
    ·simp only [Act.put, List.setIfInBounds_toArray, List.set_cons_zero, List.set_cons_succ, i64_w, i32_w]
     rfl
    refine pure_ (i := 3) (N := some 43) (v := ?_) (a' := ?_) #[false, true, false, true, false, false, false, false, false, false, false, false, false] rfl rfl (any_of HT_.out (by kernel_rfl)) (fun _ _ _ h => h) (Or.inl ⟨by rfl, ?_⟩) ?_ ?_
    rotate_left
    ·intro w'
     go_simp
     with_reducible rfl
    rotate_left
    ·simp only [Act.put, List.setIfInBounds_toArray, List.set_cons_zero, List.set_cons_succ, i64_w, i32_w]
     rfl
    refine pure_ (i := 5) (N := some 45) (v := ?_) (a' := ?_) #[false, true, false, true, false, true, false, false, false, false, false, false, false] rfl rfl (any_of HT_.out (by kernel_rfl)) (fun _ _ _ h => h) (Or.inl ⟨by rfl, ?_⟩) ?_ ?_
    rotate_left
    ·intro w'
     go_simp
     with_reducible rfl
    rotate_left
    ·simp only [Act.put, List.setIfInBounds_toArray, List.set_cons_zero, List.set_cons_succ, i64_w, i32_w]
     rfl
    refine pure_ (i := 7) (N := some 47) (v := ?_) (a' := ?_) #[false, true, false, true, false, true, false, true, false, false, false, false, false] rfl rfl (any_of HT_.out (by kernel_rfl)) (fun _ _ _ h => h) (Or.inl ⟨by rfl, ?_⟩) ?_ ?_
    rotate_left
    ·intro w'
     go_simp
     with_reducible rfl
    rotate_left
    ·simp only [Act.put, List.setIfInBounds_toArray, List.set_cons_zero, List.set_cons_succ, i64_w, i32_w]
     rfl
    refine inv_at [0, 2, 4, 6, 8, 9, 10, 11, 12] (fun a0_ b a w' => ∃ (v40 : Value) (v42 : Value) (v44 : Value) (v46 : Value) (v48 : Value) (gT : Nat) (m9_ : Value) (m10_ : Value) (m11_ : Value) (m12_ : Value), a = putSel a0_ b [(0, 40, v40), (2, 42, v42), (4, 44, v44), (6, 46, v46), (8, 48, v48), (9, 49, m9_), (10, 50, m10_), (11, 51, m11_), (12, 10, m12_)] ∧ (Below w9.heap.size w9 w') ∧ (b 0 = true → b 2 = false → Kd.R (Kd.int .i64) 3 w' w9.heap.size (fun _ => True) v40 ([] : List Int)) ∧ (b 0 = true → b 2 = false → ∃ b_, v40.ownBlock = some b_) ∧ (b 2 = true → Kd.R (Kd.int .i64) 3 w' w9.heap.size (fun _ => True) v42 l0) ∧ (b 2 = true → ∃ b_, v42.ownBlock = some b_) ∧ (b 4 = true → Kd.R (Kd.int .i64) 3 w' w9.heap.size (fun _ => True) v44 (List.replicate l0.length (0 : Int))) ∧ (b 4 = true → ∃ b_, v44.ownBlock = some b_) ∧ (b 6 = true → Kd.R (Kd.int .i64) 3 w' w9.heap.size (fun _ => True) v46 (List.replicate l0.length (0 : Int))) ∧ (b 6 = true → ∃ b_, v46.ownBlock = some b_) ∧ (b 8 = true → Kd.R (Kd.int .i64) 3 w' w9.heap.size (fun _ => True) v48 ([] : List Int)) ∧ (b 8 = true → ∃ b_, v48.ownBlock = some b_) ∧ (b 0 = true → b 4 = true → b 2 = false → (v40.ownBlock = none ∨ v40.ownBlock ≠ v44.ownBlock)) ∧ (b 0 = true → b 6 = true → b 2 = false → (v40.ownBlock = none ∨ v40.ownBlock ≠ v46.ownBlock)) ∧ (b 0 = true → b 8 = true → b 2 = false → (v40.ownBlock = none ∨ v40.ownBlock ≠ v48.ownBlock)) ∧ (b 2 = true → b 4 = true → (v42.ownBlock = none ∨ v42.ownBlock ≠ v44.ownBlock)) ∧ (b 2 = true → b 6 = true → (v42.ownBlock = none ∨ v42.ownBlock ≠ v46.ownBlock)) ∧ (b 2 = true → b 8 = true → (v42.ownBlock = none ∨ v42.ownBlock ≠ v48.ownBlock)) ∧ (b 4 = true → b 6 = true → (v44.ownBlock = none ∨ v44.ownBlock ≠ v46.ownBlock)) ∧ (b 4 = true → b 8 = true → (v44.ownBlock = none ∨ v44.ownBlock ≠ v48.ownBlock)) ∧ (b 6 = true → b 8 = true → (v46.ownBlock = none ∨ v46.ownBlock ≠ v48.ownBlock)) ∧ (b 11 = true → w'.heap[gT]? = some (.cells #[v48, .int .i64 0, .int .i64 0, .bool false, v42, v44, v46, .slice A1 l1.length c1] 59 (0, 0))) ∧ (b 11 = true → w9.heap.size ≤ gT) ∧ (b 9 = true → (m9_ : Value) = .agg #[v48, .int .i64 0, .int .i64 0, .bool false]) ∧ (b 10 = true → (m10_ : Value) = .agg #[v48, .int .i64 0, .int .i64 0, .bool false, v42, v44, v46, .slice A1 l1.length c1]) ∧ (b 11 = true → (m11_ : Value) = .pointer (some ⟨gT, 0, none⟩)) ∧ (b 12 = true → (m12_ : Value) = .pointer (some ⟨gT, 0, none⟩))) HT_.out HW_.out (by kernel_rfl) (by kernel_rfl) ?_ ?_ ?_
    ·exact ⟨.bool false, .bool false, .bool false, .bool false, .bool false, 0, .bool false, .bool false, .bool false, .bool false, by simp only [putSel, Bool.false_eq_true, if_false], BEL.out, fun h_ => absurd h_ (by decide), fun h_ => absurd h_ (by decide), fun h_ => absurd h_ (by decide), fun h_ => absurd h_ (by decide), fun h_ => absurd h_ (by decide), fun h_ => absurd h_ (by decide), fun h_ => absurd h_ (by decide), fun h_ => absurd h_ (by decide), fun h_ => absurd h_ (by decide), fun h_ => absurd h_ (by decide), fun h_ => absurd h_ (by decide), fun h_ => absurd h_ (by decide), fun h_ => absurd h_ (by decide), fun h_ => absurd h_ (by decide), fun h_ => absurd h_ (by decide), fun h_ => absurd h_ (by decide), fun h_ => absurd h_ (by decide), fun h_ => absurd h_ (by decide), fun h_ => absurd h_ (by decide), fun h_ => absurd h_ (by decide), fun h_ => absurd h_ (by decide), fun h_ => absurd h_ (by decide), fun h_ => absurd h_ (by decide), fun h_ => absurd h_ (by decide), fun h_ => absurd h_ (by decide)⟩
    ·skip
     clear BEL
     refine steps_cons ?_ ?_
     ·rintro b a w' ⟨v40, v42, v44, v46, v48, gT, m9_, m10_, m11_, m12_, ha, Q_BEL, Q_R0, Q_E0, Q_R2, Q_E2, Q_R4, Q_E4, Q_R6, Q_E6, Q_R8, Q_E8, Q_A0_4, Q_A0_6, Q_A0_8, Q_A2_4, Q_A2_6, Q_A2_8, Q_A4_6, Q_A4_8, Q_A6_8, Q_GT, Q_GE, Q_X9_, Q_X10_, Q_X11_, Q_X12_⟩ hb_ hon hoff
      refine ⟨_, rfl, fun K hK => ?_⟩
      replace ha := Aside0.mk ha
      have BEL := Aside0.mk Q_BEL
      refine Kd.R_lit_step (Kd.int .i64) w'.heap.size 3 (by rfl) (N := 40) rfl (xs := ([] : List Int)) (inner := []) (ok := fun _ => True) (okp := fun _ => True) ?hr (Reps.none _ _) (fun _ hk => hk) trivial (Below.refl _ _) (Nat.le_refl _) (by simp) ?_
      (case hr => first | (go_simp; done) | (go_simp; rfl))
      intro v_ w_ ho_ hb_2 hg_ hat_
      refine hK.out _ _ ⟨v_, v42, v44, v46, v48, gT, m9_, m10_, m11_, m12_, (by rw [ha.out]; exact putSel_upk 0 hb_ rfl rfl rfl), below_step BEL.out hb_2, fun _ _ => Kd.R_lower ho_ (below_size BEL.out), fun _ _ => ⟨_, hat_.choose_spec.1⟩, fun h0_ => absurd ((hoff 2 (by kernel_rfl)).symm.trans h0_) (by decide), fun h0_ => absurd ((hoff 2 (by kernel_rfl)).symm.trans h0_) (by decide), fun h0_ => Kd.R_below (Q_R4 h0_) hb_2, Q_E4, fun h0_ => Kd.R_below (Q_R6 h0_) hb_2, Q_E6, fun h0_ => Kd.R_below (Q_R8 h0_) hb_2, Q_E8, fun _ _ _ => own_apart' (Kd.R_base ho_) (Kd.R_lt (Q_R4 (by assumption))), fun _ _ _ => own_apart' (Kd.R_base ho_) (Kd.R_lt (Q_R6 (by assumption))), fun _ _ _ => own_apart' (Kd.R_base ho_) (Kd.R_lt (Q_R8 (by assumption))), fun h0_ _ => absurd ((hoff 2 (by kernel_rfl)).symm.trans h0_) (by decide), fun h0_ _ => absurd ((hoff 2 (by kernel_rfl)).symm.trans h0_) (by decide), fun h0_ _ => absurd ((hoff 2 (by kernel_rfl)).symm.trans h0_) (by decide), Q_A4_6, Q_A4_8, Q_A6_8, fun h0_ => absurd ((hoff 11 (by kernel_rfl)).symm.trans h0_) (by decide), fun h0_ => absurd ((hoff 11 (by kernel_rfl)).symm.trans h0_) (by decide), Q_X9_, fun h0_ => absurd ((hoff 10 (by kernel_rfl)).symm.trans h0_) (by decide), fun h0_ => absurd ((hoff 11 (by kernel_rfl)).symm.trans h0_) (by decide), fun h0_ => absurd ((hoff 12 (by kernel_rfl)).symm.trans h0_) (by decide)⟩
     refine steps_cons ?_ ?_
     ·rintro b a w' ⟨v40, v42, v44, v46, v48, gT, m9_, m10_, m11_, m12_, ha, Q_BEL, Q_R0, Q_E0, Q_R2, Q_E2, Q_R4, Q_E4, Q_R6, Q_E6, Q_R8, Q_E8, Q_A0_4, Q_A0_6, Q_A0_8, Q_A2_4, Q_A2_6, Q_A2_8, Q_A4_6, Q_A4_8, Q_A6_8, Q_GT, Q_GE, Q_X9_, Q_X10_, Q_X11_, Q_X12_⟩ hb_ hon hoff
      refine ⟨_, rfl, fun K hK => ?_⟩
      have e40 : a.tmps[40]? = some (v40) := by rw [ha]; exact putSel_on (e := (0, 40, v40)) 0 rfl rfl (hon 0 (by kernel_rfl)) rfl
      have e41 : a.tmps[41]? = some (.slice A0 l0.length c0) := by rw [ha]; exact (putSel_off rfl).trans rfl
      replace ha := Aside0.mk ha
      have BEL := Aside0.mk Q_BEL
      have R0 := Aside0.mk (Q_R0 (hon 0 (by kernel_rfl)) hb_)
      have E0 := Aside0.mk (Q_E0 (hon 0 (by kernel_rfl)) hb_)
      refine Kd.R_append_rows_step (Kd.int .i64) (w0 := w9) w9.heap.size (by rfl) (.tmp 40) (.tmp 41) 23 3 (.int .i64 0) 8 rfl Try.underlying23 info3 rfl (by decide) (by omega) v40 [] l0 A0 l0.length c0 (fun k_ => (b 4 = true → some k_ ≠ v44.ownBlock) ∧ (b 6 = true → some k_ ≠ v46.ownBlock) ∧ (b 8 = true → some k_ ≠ v48.ownBlock)) (fun _ => False) (eval_of e40) (eval_of e41) (Kd.R_flat (fun h_ => h_) R0.out (fun k_ hk_ _ => ⟨fun h_ => atom_of (Q_A0_4 (hon 0 (by kernel_rfl)) h_ hb_) hk_, fun h_ => atom_of (Q_A0_6 (hon 0 (by kernel_rfl)) h_ hb_) hk_, fun h_ => atom_of (Q_A0_8 (hon 0 (by kernel_rfl)) h_ hb_) hk_⟩)) (Kd.C_below KR0.out BEL.out) (fun _ _ h => h) (fun _ h => h.elim) (fun k_ hk_ => ⟨fun h_ => Kd.fresh' (Kd.R_lt (Q_R4 h_)) k_ hk_, fun h_ => Kd.fresh' (Kd.R_lt (Q_R6 h_)) k_ hk_, fun h_ => Kd.fresh' (Kd.R_lt (Q_R8 h_)) k_ hk_⟩) BEL.out (below_size BEL.out) (by simp only [List.length_nil]; omega) ?_
      intro v_ w_ ho_ hb_2 hg_ hat_
      rw [List.nil_append] at ho_
      refine hK.out _ _ ⟨v40, v_, v44, v46, v48, gT, m9_, m10_, m11_, m12_, (by rw [ha.out]; exact putSel_upk 1 hb_ rfl rfl rfl), hb_2, fun _ h1_ => absurd ((up_self b 2).symm.trans h1_) (by decide), fun _ h1_ => absurd ((up_self b 2).symm.trans h1_) (by decide), fun _ => Kd.R_mono ho_ (fun _ _ => trivial), fun _ => (hat_.elim (fun h_ => by rw [h_]; exact E0.out) (fun h_ => ⟨_, h_.choose_spec.1⟩)), fun h0_ => Kd.R_mono (Kd.R_after (ok := fun _ => True) (v := v40) (v1 := v_) (Kd.R_flat (ok' := fun k_ => True ∧ some k_ ≠ v40.ownBlock) (fun h_ => h_) (Q_R4 h0_) (fun k_ hk_ _ => ⟨trivial, atom_of' (Q_A0_4 (hon 0 (by kernel_rfl)) h0_ hb_) hk_⟩)) hg_ hat_) (fun _ _ => trivial), Q_E4, fun h0_ => Kd.R_mono (Kd.R_after (ok := fun _ => True) (v := v40) (v1 := v_) (Kd.R_flat (ok' := fun k_ => True ∧ some k_ ≠ v40.ownBlock) (fun h_ => h_) (Q_R6 h0_) (fun k_ hk_ _ => ⟨trivial, atom_of' (Q_A0_6 (hon 0 (by kernel_rfl)) h0_ hb_) hk_⟩)) hg_ hat_) (fun _ _ => trivial), Q_E6, fun h0_ => Kd.R_mono (Kd.R_after (ok := fun _ => True) (v := v40) (v1 := v_) (Kd.R_flat (ok' := fun k_ => True ∧ some k_ ≠ v40.ownBlock) (fun h_ => h_) (Q_R8 h0_) (fun k_ hk_ _ => ⟨trivial, atom_of' (Q_A0_8 (hon 0 (by kernel_rfl)) h0_ hb_) hk_⟩)) hg_ hat_) (fun _ _ => trivial), Q_E8, fun _ _ h2_ => absurd ((up_self b 2).symm.trans h2_) (by decide), fun _ _ h2_ => absurd ((up_self b 2).symm.trans h2_) (by decide), fun _ _ h2_ => absurd ((up_self b 2).symm.trans h2_) (by decide), fun _ _ => spec_RunTalk.apart (fun k_ hk_ => (ho_.1 k_ hk_).1 (by assumption)), fun _ _ => spec_RunTalk.apart (fun k_ hk_ => (ho_.1 k_ hk_).2.1 (by assumption)), fun _ _ => spec_RunTalk.apart (fun k_ hk_ => (ho_.1 k_ hk_).2.2 (by assumption)), Q_A4_6, Q_A4_8, Q_A6_8, fun h0_ => absurd ((hoff 11 (by kernel_rfl)).symm.trans h0_) (by decide), fun h0_ => absurd ((hoff 11 (by kernel_rfl)).symm.trans h0_) (by decide), Q_X9_, fun h0_ => absurd ((hoff 10 (by kernel_rfl)).symm.trans h0_) (by decide), fun h0_ => absurd ((hoff 11 (by kernel_rfl)).symm.trans h0_) (by decide), fun h0_ => absurd ((hoff 12 (by kernel_rfl)).symm.trans h0_) (by decide)⟩
     refine steps_cons ?_ ?_
     ·rintro b a w' ⟨v40, v42, v44, v46, v48, gT, m9_, m10_, m11_, m12_, ha, Q_BEL, Q_R0, Q_E0, Q_R2, Q_E2, Q_R4, Q_E4, Q_R6, Q_E6, Q_R8, Q_E8, Q_A0_4, Q_A0_6, Q_A0_8, Q_A2_4, Q_A2_6, Q_A2_8, Q_A4_6, Q_A4_8, Q_A6_8, Q_GT, Q_GE, Q_X9_, Q_X10_, Q_X11_, Q_X12_⟩ hb_ hon hoff
      refine ⟨_, rfl, fun K hK => ?_⟩
      have e43 : a.tmps[43]? = some (.int .i64 (l0.length : Int)) := by rw [ha]; exact (putSel_off rfl).trans rfl
      replace ha := Aside0.mk ha
      have BEL := Aside0.mk Q_BEL
      refine Kd.R_make_step (Kd.int .i64) w'.heap.size 3 (by rfl) (N := 44) rfl 23 (.tmp 43) (.tmp 43) rfl (l0.length : Int) (eval_of e43) (eval_of e43) Try.underlying23 (.int .i64 0) 8 info3 rfl (by decide) (by omega) 0 (ok := fun _ => True) (okp := fun _ => True) rfl (fun _ hk => hk) trivial (by omega) (by omega) (Below.refl _ _) (Nat.le_refl _) ?_
      intro v_ w_ ho_ hb_2 hg_ hat_
      rw [Int.toNat_natCast] at ho_
      refine hK.out _ _ ⟨v40, v42, v_, v46, v48, gT, m9_, m10_, m11_, m12_, (by rw [ha.out]; exact putSel_upk 2 hb_ rfl rfl rfl), below_step BEL.out hb_2, fun h0_ h1_ => Kd.R_below (Q_R0 h0_ h1_) hb_2, Q_E0, fun h0_ => Kd.R_below (Q_R2 h0_) hb_2, Q_E2, fun _ => Kd.R_lower ho_ (below_size BEL.out), fun _ => ⟨_, hat_.choose_spec.1⟩, fun h0_ => Kd.R_below (Q_R6 h0_) hb_2, Q_E6, fun h0_ => Kd.R_below (Q_R8 h0_) hb_2, Q_E8, fun _ _ _ => own_apart (Kd.R_lt (Q_R0 (by assumption) (by assumption))) (Kd.R_base ho_), Q_A0_6, Q_A0_8, fun _ _ => own_apart (Kd.R_lt (Q_R2 (by assumption))) (Kd.R_base ho_), Q_A2_6, Q_A2_8, fun _ _ => own_apart' (Kd.R_base ho_) (Kd.R_lt (Q_R6 (by assumption))), fun _ _ => own_apart' (Kd.R_base ho_) (Kd.R_lt (Q_R8 (by assumption))), Q_A6_8, fun h0_ => absurd ((hoff 11 (by kernel_rfl)).symm.trans h0_) (by decide), fun h0_ => absurd ((hoff 11 (by kernel_rfl)).symm.trans h0_) (by decide), Q_X9_, fun h0_ => absurd ((hoff 10 (by kernel_rfl)).symm.trans h0_) (by decide), fun h0_ => absurd ((hoff 11 (by kernel_rfl)).symm.trans h0_) (by decide), fun h0_ => absurd ((hoff 12 (by kernel_rfl)).symm.trans h0_) (by decide)⟩
     refine steps_cons ?_ ?_
     ·rintro b a w' ⟨v40, v42, v44, v46, v48, gT, m9_, m10_, m11_, m12_, ha, Q_BEL, Q_R0, Q_E0, Q_R2, Q_E2, Q_R4, Q_E4, Q_R6, Q_E6, Q_R8, Q_E8, Q_A0_4, Q_A0_6, Q_A0_8, Q_A2_4, Q_A2_6, Q_A2_8, Q_A4_6, Q_A4_8, Q_A6_8, Q_GT, Q_GE, Q_X9_, Q_X10_, Q_X11_, Q_X12_⟩ hb_ hon hoff
      refine ⟨_, rfl, fun K hK => ?_⟩
      have e45 : a.tmps[45]? = some (.int .i64 (l0.length : Int)) := by rw [ha]; exact (putSel_off rfl).trans rfl
      replace ha := Aside0.mk ha
      have BEL := Aside0.mk Q_BEL
      refine Kd.R_make_step (Kd.int .i64) w'.heap.size 3 (by rfl) (N := 46) rfl 23 (.tmp 45) (.tmp 45) rfl (l0.length : Int) (eval_of e45) (eval_of e45) Try.underlying23 (.int .i64 0) 8 info3 rfl (by decide) (by omega) 0 (ok := fun _ => True) (okp := fun _ => True) rfl (fun _ hk => hk) trivial (by omega) (by omega) (Below.refl _ _) (Nat.le_refl _) ?_
      intro v_ w_ ho_ hb_2 hg_ hat_
      rw [Int.toNat_natCast] at ho_
      refine hK.out _ _ ⟨v40, v42, v44, v_, v48, gT, m9_, m10_, m11_, m12_, (by rw [ha.out]; exact putSel_upk 3 hb_ rfl rfl rfl), below_step BEL.out hb_2, fun h0_ h1_ => Kd.R_below (Q_R0 h0_ h1_) hb_2, Q_E0, fun h0_ => Kd.R_below (Q_R2 h0_) hb_2, Q_E2, fun h0_ => Kd.R_below (Q_R4 h0_) hb_2, Q_E4, fun _ => Kd.R_lower ho_ (below_size BEL.out), fun _ => ⟨_, hat_.choose_spec.1⟩, fun h0_ => Kd.R_below (Q_R8 h0_) hb_2, Q_E8, Q_A0_4, fun _ _ _ => own_apart (Kd.R_lt (Q_R0 (by assumption) (by assumption))) (Kd.R_base ho_), Q_A0_8, Q_A2_4, fun _ _ => own_apart (Kd.R_lt (Q_R2 (by assumption))) (Kd.R_base ho_), Q_A2_8, fun _ _ => own_apart (Kd.R_lt (Q_R4 (by assumption))) (Kd.R_base ho_), Q_A4_8, fun _ _ => own_apart' (Kd.R_base ho_) (Kd.R_lt (Q_R8 (by assumption))), fun h0_ => absurd ((hoff 11 (by kernel_rfl)).symm.trans h0_) (by decide), fun h0_ => absurd ((hoff 11 (by kernel_rfl)).symm.trans h0_) (by decide), Q_X9_, fun h0_ => absurd ((hoff 10 (by kernel_rfl)).symm.trans h0_) (by decide), fun h0_ => absurd ((hoff 11 (by kernel_rfl)).symm.trans h0_) (by decide), fun h0_ => absurd ((hoff 12 (by kernel_rfl)).symm.trans h0_) (by decide)⟩
     refine steps_cons ?_ ?_
     ·rintro b a w' ⟨v40, v42, v44, v46, v48, gT, m9_, m10_, m11_, m12_, ha, Q_BEL, Q_R0, Q_E0, Q_R2, Q_E2, Q_R4, Q_E4, Q_R6, Q_E6, Q_R8, Q_E8, Q_A0_4, Q_A0_6, Q_A0_8, Q_A2_4, Q_A2_6, Q_A2_8, Q_A4_6, Q_A4_8, Q_A6_8, Q_GT, Q_GE, Q_X9_, Q_X10_, Q_X11_, Q_X12_⟩ hb_ hon hoff
      refine ⟨_, rfl, fun K hK => ?_⟩
      replace ha := Aside0.mk ha
      have BEL := Aside0.mk Q_BEL
      refine Kd.R_lit_step (Kd.int .i64) w'.heap.size 3 (by rfl) (N := 48) rfl (xs := ([] : List Int)) (inner := []) (ok := fun _ => True) (okp := fun _ => True) ?hr (Reps.none _ _) (fun _ hk => hk) trivial (Below.refl _ _) (Nat.le_refl _) (by simp) ?_
      (case hr => first | (go_simp; done) | (go_simp; rfl))
      intro v_ w_ ho_ hb_2 hg_ hat_
      refine hK.out _ _ ⟨v40, v42, v44, v46, v_, gT, m9_, m10_, m11_, m12_, (by rw [ha.out]; exact putSel_upk 4 hb_ rfl rfl rfl), below_step BEL.out hb_2, fun h0_ h1_ => Kd.R_below (Q_R0 h0_ h1_) hb_2, Q_E0, fun h0_ => Kd.R_below (Q_R2 h0_) hb_2, Q_E2, fun h0_ => Kd.R_below (Q_R4 h0_) hb_2, Q_E4, fun h0_ => Kd.R_below (Q_R6 h0_) hb_2, Q_E6, fun _ => Kd.R_lower ho_ (below_size BEL.out), fun _ => ⟨_, hat_.choose_spec.1⟩, Q_A0_4, Q_A0_6, fun _ _ _ => own_apart (Kd.R_lt (Q_R0 (by assumption) (by assumption))) (Kd.R_base ho_), Q_A2_4, Q_A2_6, fun _ _ => own_apart (Kd.R_lt (Q_R2 (by assumption))) (Kd.R_base ho_), Q_A4_6, fun _ _ => own_apart (Kd.R_lt (Q_R4 (by assumption))) (Kd.R_base ho_), fun _ _ => own_apart (Kd.R_lt (Q_R6 (by assumption))) (Kd.R_base ho_), fun h0_ => absurd ((hoff 11 (by kernel_rfl)).symm.trans h0_) (by decide), fun h0_ => absurd ((hoff 11 (by kernel_rfl)).symm.trans h0_) (by decide), fun h0_ => absurd ((hoff 9 (by kernel_rfl)).symm.trans h0_) (by decide), fun h0_ => absurd ((hoff 10 (by kernel_rfl)).symm.trans h0_) (by decide), fun h0_ => absurd ((hoff 11 (by kernel_rfl)).symm.trans h0_) (by decide), fun h0_ => absurd ((hoff 12 (by kernel_rfl)).symm.trans h0_) (by decide)⟩
     refine steps_cons ?_ ?_
     ·rintro b a w' ⟨v40, v42, v44, v46, v48, gT, m9_, m10_, m11_, m12_, ha, Q_BEL, Q_R0, Q_E0, Q_R2, Q_E2, Q_R4, Q_E4, Q_R6, Q_E6, Q_R8, Q_E8, Q_A0_4, Q_A0_6, Q_A0_8, Q_A2_4, Q_A2_6, Q_A2_8, Q_A4_6, Q_A4_8, Q_A6_8, Q_GT, Q_GE, Q_X9_, Q_X10_, Q_X11_, Q_X12_⟩ hb_ hon hoff
      refine ⟨_, rfl, fun K hK => ?_⟩
      have e48 : a.tmps[48]? = some (v48) := by rw [ha]; exact putSel_on (e := (8, 48, v48)) 4 rfl rfl (hon 8 (by kernel_rfl)) rfl
      replace ha := Aside0.mk ha
      have BEL := Aside0.mk Q_BEL
      have R8 := Aside0.mk (Q_R8 (hon 8 (by kernel_rfl)))
      have E8 := Aside0.mk (Q_E8 (hon 8 (by kernel_rfl)))
      obtain ⟨Ao8_, co8_, eo8_⟩ := Kd.R_slice R8.out
      subst eo8_
      refine value_ (w1 := w') (v := .agg #[(.slice Ao8_ ([] : List Int).length co8_), .int .i64 0, .int .i64 0, .bool false]) (by rfl) rfl ?_ ?_
      ·go_simp
       (try simp only [i64_w])
       try rfl
      refine hK.out _ _ ⟨v40, v42, v44, v46, (.slice Ao8_ ([] : List Int).length co8_), gT, (.agg #[(.slice Ao8_ ([] : List Int).length co8_), .int .i64 0, .int .i64 0, .bool false]), m10_, m11_, m12_, (by rw [ha.out]; exact putSel_upk 5 hb_ rfl rfl rfl), Q_BEL, Q_R0, Q_E0, Q_R2, Q_E2, Q_R4, Q_E4, Q_R6, Q_E6, Q_R8, Q_E8, Q_A0_4, Q_A0_6, Q_A0_8, Q_A2_4, Q_A2_6, Q_A2_8, Q_A4_6, Q_A4_8, Q_A6_8, fun h0_ => absurd ((hoff 11 (by kernel_rfl)).symm.trans h0_) (by decide), fun h0_ => absurd ((hoff 11 (by kernel_rfl)).symm.trans h0_) (by decide), fun _ => rfl, fun h0_ => absurd ((hoff 10 (by kernel_rfl)).symm.trans h0_) (by decide), fun h0_ => absurd ((hoff 11 (by kernel_rfl)).symm.trans h0_) (by decide), fun h0_ => absurd ((hoff 12 (by kernel_rfl)).symm.trans h0_) (by decide)⟩
     refine steps_cons ?_ ?_
     ·rintro b a w' ⟨v40, v42, v44, v46, v48, gT, m9_, m10_, m11_, m12_, ha, Q_BEL, Q_R0, Q_E0, Q_R2, Q_E2, Q_R4, Q_E4, Q_R6, Q_E6, Q_R8, Q_E8, Q_A0_4, Q_A0_6, Q_A0_8, Q_A2_4, Q_A2_6, Q_A2_8, Q_A4_6, Q_A4_8, Q_A6_8, Q_GT, Q_GE, Q_X9_, Q_X10_, Q_X11_, Q_X12_⟩ hb_ hon hoff
      refine ⟨_, rfl, fun K hK => ?_⟩
      have e42 : a.tmps[42]? = some (v42) := by rw [ha]; exact putSel_on (e := (2, 42, v42)) 1 rfl rfl (hon 2 (by kernel_rfl)) rfl
      have e44 : a.tmps[44]? = some (v44) := by rw [ha]; exact putSel_on (e := (4, 44, v44)) 2 rfl rfl (hon 4 (by kernel_rfl)) rfl
      have e46 : a.tmps[46]? = some (v46) := by rw [ha]; exact putSel_on (e := (6, 46, v46)) 3 rfl rfl (hon 6 (by kernel_rfl)) rfl
      have e47 : a.tmps[47]? = some (.slice A1 l1.length c1) := by rw [ha]; exact (putSel_off rfl).trans rfl
      have e49 : a.tmps[49]? = some (m9_) := by rw [ha]; exact putSel_on (e := (9, 49, m9_)) 5 rfl rfl (hon 9 (by kernel_rfl)) rfl
      rw [Q_X9_ (hon 9 (by kernel_rfl))] at e49
      replace ha := Aside0.mk ha
      have BEL := Aside0.mk Q_BEL
      have R2 := Aside0.mk (Q_R2 (hon 2 (by kernel_rfl)))
      have E2 := Aside0.mk (Q_E2 (hon 2 (by kernel_rfl)))
      have R4 := Aside0.mk (Q_R4 (hon 4 (by kernel_rfl)))
      have E4 := Aside0.mk (Q_E4 (hon 4 (by kernel_rfl)))
      have R6 := Aside0.mk (Q_R6 (hon 6 (by kernel_rfl)))
      have E6 := Aside0.mk (Q_E6 (hon 6 (by kernel_rfl)))
      have R8 := Aside0.mk (Q_R8 (hon 8 (by kernel_rfl)))
      have E8 := Aside0.mk (Q_E8 (hon 8 (by kernel_rfl)))
      have A2_4 := Aside0.mk (Q_A2_4 (hon 2 (by kernel_rfl)) (hon 4 (by kernel_rfl)))
      have A2_6 := Aside0.mk (Q_A2_6 (hon 2 (by kernel_rfl)) (hon 6 (by kernel_rfl)))
      have A2_8 := Aside0.mk (Q_A2_8 (hon 2 (by kernel_rfl)) (hon 8 (by kernel_rfl)))
      have A4_6 := Aside0.mk (Q_A4_6 (hon 4 (by kernel_rfl)) (hon 6 (by kernel_rfl)))
      have A4_8 := Aside0.mk (Q_A4_8 (hon 4 (by kernel_rfl)) (hon 8 (by kernel_rfl)))
      have A6_8 := Aside0.mk (Q_A6_8 (hon 6 (by kernel_rfl)) (hon 8 (by kernel_rfl)))
      obtain ⟨Ao2_, co2_, eo2_⟩ := Kd.R_slice R2.out
      subst eo2_
      obtain ⟨Ao4_, co4_, eo4_⟩ := Kd.R_slice R4.out
      subst eo4_
      obtain ⟨Ao6_, co6_, eo6_⟩ := Kd.R_slice R6.out
      subst eo6_
      obtain ⟨Ao8_, co8_, eo8_⟩ := Kd.R_slice R8.out
      subst eo8_
      refine value_ (w1 := w') (v := .agg #[(.slice Ao8_ ([] : List Int).length co8_), .int .i64 0, .int .i64 0, .bool false, (.slice Ao2_ l0.length co2_), (.slice Ao4_ (List.replicate l0.length (0 : Int)).length co4_), (.slice Ao6_ (List.replicate l0.length (0 : Int)).length co6_), .slice A1 l1.length c1]) (by rfl) rfl ?_ ?_
      ·go_simp
       (try simp only [i64_w])
       try rfl
      refine hK.out _ _ ⟨v40, (.slice Ao2_ l0.length co2_), (.slice Ao4_ (List.replicate l0.length (0 : Int)).length co4_), (.slice Ao6_ (List.replicate l0.length (0 : Int)).length co6_), (.slice Ao8_ ([] : List Int).length co8_), gT, m9_, (.agg #[(.slice Ao8_ ([] : List Int).length co8_), .int .i64 0, .int .i64 0, .bool false, (.slice Ao2_ l0.length co2_), (.slice Ao4_ (List.replicate l0.length (0 : Int)).length co4_), (.slice Ao6_ (List.replicate l0.length (0 : Int)).length co6_), .slice A1 l1.length c1]), m11_, m12_, (by rw [ha.out]; exact putSel_upk 6 hb_ rfl rfl rfl), Q_BEL, fun _ h1_ => absurd ((hon 2 (by kernel_rfl)).symm.trans h1_) (by decide), fun _ h1_ => absurd ((hon 2 (by kernel_rfl)).symm.trans h1_) (by decide), Q_R2, Q_E2, Q_R4, Q_E4, Q_R6, Q_E6, Q_R8, Q_E8, fun _ _ h2_ => absurd ((hon 2 (by kernel_rfl)).symm.trans h2_) (by decide), fun _ _ h2_ => absurd ((hon 2 (by kernel_rfl)).symm.trans h2_) (by decide), fun _ _ h2_ => absurd ((hon 2 (by kernel_rfl)).symm.trans h2_) (by decide), Q_A2_4, Q_A2_6, Q_A2_8, Q_A4_6, Q_A4_8, Q_A6_8, fun h0_ => absurd ((hoff 11 (by kernel_rfl)).symm.trans h0_) (by decide), fun h0_ => absurd ((hoff 11 (by kernel_rfl)).symm.trans h0_) (by decide), Q_X9_, fun _ => rfl, fun h0_ => absurd ((hoff 11 (by kernel_rfl)).symm.trans h0_) (by decide), fun h0_ => absurd ((hoff 12 (by kernel_rfl)).symm.trans h0_) (by decide)⟩
     refine steps_cons ?_ ?_
     ·rintro b a w' ⟨v40, v42, v44, v46, v48, gT, m9_, m10_, m11_, m12_, ha, Q_BEL, Q_R0, Q_E0, Q_R2, Q_E2, Q_R4, Q_E4, Q_R6, Q_E6, Q_R8, Q_E8, Q_A0_4, Q_A0_6, Q_A0_8, Q_A2_4, Q_A2_6, Q_A2_8, Q_A4_6, Q_A4_8, Q_A6_8, Q_GT, Q_GE, Q_X9_, Q_X10_, Q_X11_, Q_X12_⟩ hb_ hon hoff
      refine ⟨_, rfl, fun K hK => ?_⟩
      have e50 : a.tmps[50]? = some (m10_) := by rw [ha]; exact putSel_on (e := (10, 50, m10_)) 6 rfl rfl (hon 10 (by kernel_rfl)) rfl
      rw [Q_X10_ (hon 10 (by kernel_rfl))] at e50
      replace ha := Aside0.mk ha
      have BEL := Aside0.mk Q_BEL
      have R2 := Aside0.mk (Q_R2 (hon 2 (by kernel_rfl)))
      have E2 := Aside0.mk (Q_E2 (hon 2 (by kernel_rfl)))
      have R4 := Aside0.mk (Q_R4 (hon 4 (by kernel_rfl)))
      have E4 := Aside0.mk (Q_E4 (hon 4 (by kernel_rfl)))
      have R6 := Aside0.mk (Q_R6 (hon 6 (by kernel_rfl)))
      have E6 := Aside0.mk (Q_E6 (hon 6 (by kernel_rfl)))
      have R8 := Aside0.mk (Q_R8 (hon 8 (by kernel_rfl)))
      have E8 := Aside0.mk (Q_E8 (hon 8 (by kernel_rfl)))
      have A2_4 := Aside0.mk (Q_A2_4 (hon 2 (by kernel_rfl)) (hon 4 (by kernel_rfl)))
      have A2_6 := Aside0.mk (Q_A2_6 (hon 2 (by kernel_rfl)) (hon 6 (by kernel_rfl)))
      have A2_8 := Aside0.mk (Q_A2_8 (hon 2 (by kernel_rfl)) (hon 8 (by kernel_rfl)))
      have A4_6 := Aside0.mk (Q_A4_6 (hon 4 (by kernel_rfl)) (hon 6 (by kernel_rfl)))
      have A4_8 := Aside0.mk (Q_A4_8 (hon 4 (by kernel_rfl)) (hon 8 (by kernel_rfl)))
      have A6_8 := Aside0.mk (Q_A6_8 (hon 6 (by kernel_rfl)) (hon 8 (by kernel_rfl)))
      refine box_step (by rfl) (N := 51) rfl (cs := #[v48, .int .i64 0, .int .i64 0, .bool false, v42, v44, v46, .slice A1 l1.length c1]) (t := 59) ?hr ?_
      (case hr => first | (go_simp; done) | (go_simp; rfl))
      intro gT_ hg_ w_ hbox_ hb_2
      refine hK.out _ _ ⟨v40, v42, v44, v46, v48, gT_, m9_, m10_, (.pointer (some ⟨gT_, 0, none⟩)), m12_, (by rw [ha.out]; exact putSel_upk 7 hb_ rfl rfl rfl), below_step BEL.out hb_2, fun _ h1_ => absurd ((hon 2 (by kernel_rfl)).symm.trans h1_) (by decide), fun _ h1_ => absurd ((hon 2 (by kernel_rfl)).symm.trans h1_) (by decide), fun _ => Kd.R_below R2.out hb_2, Q_E2, fun _ => Kd.R_below R4.out hb_2, Q_E4, fun _ => Kd.R_below R6.out hb_2, Q_E6, fun _ => Kd.R_below R8.out hb_2, Q_E8, fun _ _ h2_ => absurd ((hon 2 (by kernel_rfl)).symm.trans h2_) (by decide), fun _ _ h2_ => absurd ((hon 2 (by kernel_rfl)).symm.trans h2_) (by decide), fun _ _ h2_ => absurd ((hon 2 (by kernel_rfl)).symm.trans h2_) (by decide), Q_A2_4, Q_A2_6, Q_A2_8, Q_A4_6, Q_A4_8, Q_A6_8, fun _ => hbox_, fun _ => (by rw [hg_]; exact below_size BEL.out), Q_X9_, Q_X10_, fun _ => rfl, fun h0_ => absurd ((hoff 12 (by kernel_rfl)).symm.trans h0_) (by decide)⟩
     refine steps_cons ?_ ?_
     ·rintro b a w' ⟨v40, v42, v44, v46, v48, gT, m9_, m10_, m11_, m12_, ha, Q_BEL, Q_R0, Q_E0, Q_R2, Q_E2, Q_R4, Q_E4, Q_R6, Q_E6, Q_R8, Q_E8, Q_A0_4, Q_A0_6, Q_A0_8, Q_A2_4, Q_A2_6, Q_A2_8, Q_A4_6, Q_A4_8, Q_A6_8, Q_GT, Q_GE, Q_X9_, Q_X10_, Q_X11_, Q_X12_⟩ hb_ hon hoff
      refine ⟨_, rfl, fun K hK => ?_⟩
      have e51 : a.tmps[51]? = some (m11_) := by rw [ha]; exact putSel_on (e := (11, 51, m11_)) 7 rfl rfl (hon 11 (by kernel_rfl)) rfl
      rw [Q_X11_ (hon 11 (by kernel_rfl))] at e51
      replace ha := Aside0.mk ha
      have BEL := Aside0.mk Q_BEL
      have R2 := Aside0.mk (Q_R2 (hon 2 (by kernel_rfl)))
      have E2 := Aside0.mk (Q_E2 (hon 2 (by kernel_rfl)))
      have R4 := Aside0.mk (Q_R4 (hon 4 (by kernel_rfl)))
      have E4 := Aside0.mk (Q_E4 (hon 4 (by kernel_rfl)))
      have R6 := Aside0.mk (Q_R6 (hon 6 (by kernel_rfl)))
      have E6 := Aside0.mk (Q_E6 (hon 6 (by kernel_rfl)))
      have R8 := Aside0.mk (Q_R8 (hon 8 (by kernel_rfl)))
      have E8 := Aside0.mk (Q_E8 (hon 8 (by kernel_rfl)))
      have A2_4 := Aside0.mk (Q_A2_4 (hon 2 (by kernel_rfl)) (hon 4 (by kernel_rfl)))
      have A2_6 := Aside0.mk (Q_A2_6 (hon 2 (by kernel_rfl)) (hon 6 (by kernel_rfl)))
      have A2_8 := Aside0.mk (Q_A2_8 (hon 2 (by kernel_rfl)) (hon 8 (by kernel_rfl)))
      have A4_6 := Aside0.mk (Q_A4_6 (hon 4 (by kernel_rfl)) (hon 6 (by kernel_rfl)))
      have A4_8 := Aside0.mk (Q_A4_8 (hon 4 (by kernel_rfl)) (hon 8 (by kernel_rfl)))
      have A6_8 := Aside0.mk (Q_A6_8 (hon 6 (by kernel_rfl)) (hon 8 (by kernel_rfl)))
      have GT := Aside0.mk (Q_GT (hon 11 (by kernel_rfl)))
      have GE := Aside0.mk (Q_GE (hon 11 (by kernel_rfl)))
      refine value_ (w1 := w') (v := .pointer (some ⟨gT, 0, none⟩)) (by rfl) rfl ?_ ?_
      ·go_simp
       (try simp only [i64_w])
       try rfl
      refine hK.out _ _ ⟨v40, v42, v44, v46, v48, gT, m9_, m10_, m11_, (.pointer (some ⟨gT, 0, none⟩)), (by rw [ha.out]; exact putSel_upk 8 hb_ rfl rfl rfl), Q_BEL, fun _ h1_ => absurd ((hon 2 (by kernel_rfl)).symm.trans h1_) (by decide), fun _ h1_ => absurd ((hon 2 (by kernel_rfl)).symm.trans h1_) (by decide), Q_R2, Q_E2, Q_R4, Q_E4, Q_R6, Q_E6, Q_R8, Q_E8, fun _ _ h2_ => absurd ((hon 2 (by kernel_rfl)).symm.trans h2_) (by decide), fun _ _ h2_ => absurd ((hon 2 (by kernel_rfl)).symm.trans h2_) (by decide), fun _ _ h2_ => absurd ((hon 2 (by kernel_rfl)).symm.trans h2_) (by decide), Q_A2_4, Q_A2_6, Q_A2_8, Q_A4_6, Q_A4_8, Q_A6_8, Q_GT, Q_GE, Q_X9_, Q_X10_, Q_X11_, fun _ => rfl⟩
     exact steps_nil
    rintro b a w10 hall ⟨v40, v42, v44, v46, v48, gT, m9_, m10_, m11_, m12_, ha, Q_BEL, Q_R0, Q_E0, Q_R2, Q_E2, Q_R4, Q_E4, Q_R6, Q_E6, Q_R8, Q_E8, Q_A0_4, Q_A0_6, Q_A0_8, Q_A2_4, Q_A2_6, Q_A2_8, Q_A4_6, Q_A4_8, Q_A6_8, Q_GT, Q_GE, Q_X9_, Q_X10_, Q_X11_, Q_X12_⟩
    clear BEL
    have hb0_ := hall 0 (by kernel_rfl)
    have hb2_ := hall 2 (by kernel_rfl)
    have hb4_ := hall 4 (by kernel_rfl)
    have hb6_ := hall 6 (by kernel_rfl)
    have hb8_ := hall 8 (by kernel_rfl)
    have hb9_ := hall 9 (by kernel_rfl)
    have hb10_ := hall 10 (by kernel_rfl)
    have hb11_ := hall 11 (by kernel_rfl)
    have hb12_ := hall 12 (by kernel_rfl)
    subst ha
    obtain rfl := Q_X9_ hb9_
    obtain rfl := Q_X10_ hb10_
    obtain rfl := Q_X11_ hb11_
    obtain rfl := Q_X12_ hb12_
    simp only [putSel, hb0_, hb2_, hb4_, hb6_, hb8_, hb9_, hb10_, hb11_, hb12_, if_true, Act.put, List.setIfInBounds_toArray, List.set_cons_zero, List.set_cons_succ]
    have BEL := Aside0.mk Q_BEL
    clear Q_BEL
    clear Q_R0
    clear Q_E0
    have R2 := Aside0.mk (Q_R2 hb2_)
    clear Q_R2
    have E2 := Aside0.mk (Q_E2 hb2_)
    clear Q_E2
    have R4 := Aside0.mk (Q_R4 hb4_)
    clear Q_R4
    have E4 := Aside0.mk (Q_E4 hb4_)
    clear Q_E4
    have R6 := Aside0.mk (Q_R6 hb6_)
    clear Q_R6
    have E6 := Aside0.mk (Q_E6 hb6_)
    clear Q_E6
    have R8 := Aside0.mk (Q_R8 hb8_)
    clear Q_R8
    have E8 := Aside0.mk (Q_E8 hb8_)
    clear Q_E8
    clear Q_A0_4
    clear Q_A0_6
    clear Q_A0_8
    have A2_4 := Aside0.mk (Q_A2_4 hb2_ hb4_)
    clear Q_A2_4
    have A2_6 := Aside0.mk (Q_A2_6 hb2_ hb6_)
    clear Q_A2_6
    have A2_8 := Aside0.mk (Q_A2_8 hb2_ hb8_)
    clear Q_A2_8
    have A4_6 := Aside0.mk (Q_A4_6 hb4_ hb6_)
    clear Q_A4_6
    have A4_8 := Aside0.mk (Q_A4_8 hb4_ hb8_)
    clear Q_A4_8
    have A6_8 := Aside0.mk (Q_A6_8 hb6_ hb8_)
    clear Q_A6_8
    have GT := Aside0.mk (Q_GT hb11_)
    clear Q_GT
    have GE := Aside0.mk (Q_GE hb11_)
    clear Q_GE
    clear hall hb0_ hb2_ hb4_ hb6_ hb8_ hb9_ hb10_ hb11_ hb12_
    obtain ⟨gq, cq, eq_, oq_⟩ := spec_RunTalk.form R2.out E2.out
    obtain ⟨gw, cw, ew_, ow_⟩ := spec_RunTalk.form R4.out E4.out
    obtain ⟨gt, ct, et_, ot_⟩ := spec_RunTalk.form R6.out E6.out
    rw [List.length_replicate] at ew_ et_
    have hne : ∀ {v1 v2 : Value} {g1 g2 : Nat}, (v1.ownBlock = none ∨ v1.ownBlock ≠ v2.ownBlock) → v1.ownBlock = some g1 → v2.ownBlock = some g2 → g1 ≠ g2 := fun h h1 h2 e => by
     rcases h with h | h
     ·rw [h] at h1; cases h1
     ·exact h (by rw [h1, h2, e])
    have hro : Kd.R (Kd.int .i64) 3 w10 w9.heap.size (fun k => k ≠ gq ∧ k ≠ gw ∧ k ≠ gt) v48 ([] : List Int) := Kd.R_flat (fun h_ => h_) R8.out (fun k hk _ => ⟨fun e => hne A2_8.out oq_ hk e.symm, fun e => hne A4_8.out ow_ hk e.symm, fun e => hne A6_8.out ot_ hk e.symm⟩)
    have hqw := hne A2_4.out oq_ ow_
    have hqt := hne A2_6.out oq_ ot_
    have hwt := hne A4_6.out ow_ ot_
    have hrq := Kd.R_flat (ok' := fun k => k = gq) (fun h_ => h_) R2.out (fun k hk _ => by rw [oq_] at hk; injection hk with hk; exact hk.symm)
    have hrw := Kd.R_flat (ok' := fun k => k = gw) (fun h_ => h_) R4.out (fun k hk _ => by rw [ow_] at hk; injection hk with hk; exact hk.symm)
    have hrt := Kd.R_flat (ok' := fun k => k = gt) (fun h_ => h_) R6.out (fun k hk _ => by rw [ot_] at hk; injection hk with hk; exact hk.symm)
    subst eq_ ew_ et_
    have hfc : Sk.Fc w9 w10 gT gq gw gt cq cw ct l0.length ⟨[], 0, 0, l0, List.replicate l0.length 0, List.replicate l0.length 0, l1⟩ v48 A1 c1 :=
     ⟨GT.out, hrq, hrw, hrt, hro, KR1.out, HC1.out, BEL.out, GE.out, hqw, hqt, hwt⟩
    have HX := Aside0.mk hfc
    have hT6 : g6 ≠ gT := fun e => by have h1 := blk_lt BK9.out; have h2 := GE.out; omega
    have NE6T := Aside0.mk hT6
    clear hfc hrq hrw hrt hro hqw hqt hwt hne oq_ ow_ ot_ R2 R4 R6 R8 E2 E4 E6 E8 A2_4 A2_6 A2_8 A4_6 A4_8 A6_8 GT BEL hT6
    go_wp2_with fail
    go_loopg [] a2.toNat (fun kq wr => ∃ (s : Sk.Sp) (vo : Value) (Ad : Option Addr) (cd : Nat), Aside0 (Sk.Fc w9 wr gT gq gw gt cq cw ct l0.length s vo Ad cd) ∧ Aside0 (Sk.Inv l0.length s) ∧ Aside0 (Sk.run l0.length (a2 - s.slots).toNat s = spec_RunTalk.fin l0 l1 a2) ∧ Aside0 (s.slots ≤ a2 ∧ (a2 - s.slots).toNat ≤ kq))
    case atStart => exact ⟨_, _, _, _, HX, HI0, ⟨by show Sk.run l0.length (a2 - 0).toNat _ = _; rw [Int.sub_zero]; rfl⟩, ⟨⟨ha2.1, by show (a2 - 0).toNat ≤ _; rw [Int.sub_zero]; exact Nat.le_refl _⟩⟩⟩
    case round =>
     clear HX HI0
     obtain ⟨s, vo, Ad, cd, HX, HI, HRUN, HM⟩ := hrel
     have hm := HM.out
     have HSP := Aside0.mk (spec_RunTalk.sum_pos HI.out)
     have hsl := HI.out.sl
     generalize hS : s.qs.sum = S at HSP
     have HS0 := Aside0.mk hS
     clear hS
     have k2 := HX.out.flds.2.2.1
     have k4 := HX.out.flds.2.2.2.2.1
     by_cases hls : s.slots < a2
     rotate_left 1
     ·have q5 : decide (s.slots < a2) = false := decide_eq_false hls
      have hfin : spec_RunTalk.fin l0 l1 a2 = s := by rw [← HRUN.out, show (a2 - s.slots).toNat = 0 by omega]; rfl
      have h := HE.out
      rw [hfin] at h
      obtain ⟨rfl, rfl, rfl, rfl, rfl⟩ := h
      obtain ⟨bz, hbz⟩ : ∃ b_, (S == 0) = b_ := ⟨_, rfl⟩
      have hbd : decide (s.qs.sum = 0) = bz := by rw [HS0.out, ← hbz]; rfl
      have HBD := Aside0.mk hbd
      clear hfin hbd
      go_wp2_with fail
      refine (spec_RunTalk.sumc (HX.out.below (by repeat (first | (with_reducible first | exact Below.refl _ _ | apply below_alloc | apply pw_below_drewN | apply below_drew1)))) HI.out).mono ?_
      rw [HS0.out]
      rintro e w13 ⟨rfl, hd⟩
      have HX2 := Aside0.mk ((HX.out.below (by repeat (first | (with_reducible first | exact Below.refl _ _ | apply below_alloc | apply pw_below_drewN | apply below_drew1)))).below hd.below)
      clear HX hd k2 k4
      obtain ⟨Ao, co, eo⟩ := Kd.R_slice HX2.out.ro
      subst eo
      obtain ⟨k0, k1, k2, k3, k4, k5, k6, k7, kf⟩ := HX2.out.flds
      have kf0 := kf 0
      have kf1 := kf 1
      have kf2 := kf 2
      have kf3 := kf 3
      clear kf k5 k6 k7
      have B6 := Aside0.mk (blk_below BK9.out HX2.out.bel)
      have h6z0 := (blk_cell B6.out 0).trans rfl
      have h6f0 := blk_frozen B6.out 0
      have h6z1 := (blk_cell B6.out 1).trans rfl
      have h6f1 := blk_frozen B6.out 1
      have h6z2 := (blk_cell B6.out 2).trans rfl
      have h6f2 := blk_frozen B6.out 2
      have h6z3 := (blk_cell B6.out 3).trans rfl
      have h6f3 := blk_frozen B6.out 3
      have hn1 : g6 ≠ gT := NE6T.out
      have hn2 : gT ≠ g6 := fun e => NE6T.out e.symm
      go_wp2_with fail
      refine bodyPost_ret (results_ct rfl _ _ g6 28 #[.slice Ao s.order.length co, .int .i64 s.hits, .int .i64 s.slots, .bool bz] (0, 0) _ rfl (by (with_reducible repeat (first | refine blk_drewN ?_ _ | refine blk_drew ?_ | refine blk_alloc ?_ _)); refine blk_put (cs := #[.slice Ao s.order.length co, .int .i64 s.hits, .int .i64 s.slots, .bool false]) ?_ 3 _ rfl; (with_reducible repeat (first | refine blk_drewN ?_ _ | refine blk_drew ?_ | refine blk_alloc ?_ _)); refine blk_put (cs := #[.slice Ao s.order.length co, .int .i64 s.hits, .int .i64 0, .bool false]) ?_ 2 _ rfl; (with_reducible repeat (first | refine blk_drewN ?_ _ | refine blk_drew ?_ | refine blk_alloc ?_ _)); refine blk_put (cs := #[.slice Ao s.order.length co, .int .i64 0, .int .i64 0, .bool false]) ?_ 1 _ rfl; (with_reducible repeat (first | refine blk_drewN ?_ _ | refine blk_drew ?_ | refine blk_alloc ?_ _)); refine blk_put (cs := #[.slice none 0 0, .int .i64 0, .int .i64 0, .bool false]) ?_ 0 _ rfl; (with_reducible repeat (first | refine blk_drewN ?_ _ | refine blk_drew ?_ | refine blk_alloc ?_ _)); refine blk_far ?_ NE6T.out _; (with_reducible repeat (first | refine blk_drewN ?_ _ | refine blk_drew ?_ | refine blk_alloc ?_ _)); exact B6.out) Try.underlying28 rfl (by kernel_rfl)) rfl ?_
      exact ⟨_, by rw [HBD.out]; rfl, Kd.R_mono (Kd.R_far (p := ⟨g6, 3, none⟩) (Kd.R_far (p := ⟨g6, 2, none⟩) (Kd.R_far (p := ⟨g6, 1, none⟩) (Kd.R_far (p := ⟨g6, 0, none⟩) (Kd.R_far (p := ⟨gT, 3, none⟩) (Kd.R_types (Kd.R_types (Kd.R_lower HX2.out.ro (below_size HB9.out)) HX2.out.blk (by decide)) B6.out (by decide)) (fun _ hk => hk.1.2) _) (fun _ hk => hk.2) _) (fun _ hk => hk.2) _) (fun _ hk => hk.2) _) (fun _ hk => hk.2) _) (fun _ _ => trivial), (by have HBX := Aside0.mk (below_step HB9.out HX2.out.bel); have GET := Aside0.mk (Nat.le_trans (below_size HB9.out) GE.out); repeat (first | (with_reducible first | exact HBX.out | apply below_alloc | apply pw_below_drewN | apply below_drew1 | refine below_set ?_ GE6.out | refine below_set ?_ GET.out) | exact HBX.out))⟩
     have q5 : decide (s.slots < a2) = true := decide_eq_true hls
     by_cases hpos : 0 < S
     rotate_left 1
     ·have q6 : decide (S > 0) = false := decide_eq_false hpos
      have q6' : decide (0 < S) = false := decide_eq_false hpos
      go_wp2_with fail
      refine (spec_RunTalk.sumc (HX.out.below (by repeat (first | (with_reducible first | exact Below.refl _ _ | apply below_alloc | apply pw_below_drewN | apply below_drew1)))) HI.out).mono ?_
      rw [HS0.out]
      rintro e w12 ⟨rfl, hd⟩
      have HX3 := Aside0.mk ((HX.out.below (by repeat (first | (with_reducible first | exact Below.refl _ _ | apply below_alloc | apply pw_below_drewN | apply below_drew1)))).below hd.below)
      clear HX hd k2 k4
      have HX := HX3
      clear HX3
      have k2 := HX.out.flds.2.2.1
      have k4 := HX.out.flds.2.2.2.2.1
      have hfin : spec_RunTalk.fin l0 l1 a2 = s := by rw [← HRUN.out]; exact Sk.run_stop l0.length (by rw [HS0.out]; omega) _
      have h := HE.out
      rw [hfin] at h
      obtain ⟨rfl, rfl, rfl, rfl, rfl⟩ := h
      obtain ⟨bz, hbz⟩ : ∃ b_, (S == 0) = b_ := ⟨_, rfl⟩
      have hbd : decide (s.qs.sum = 0) = bz := by rw [HS0.out, ← hbz]; rfl
      have HBD := Aside0.mk hbd
      clear hfin hbd
      go_wp2_with fail
      refine (spec_RunTalk.sumc (HX.out.below (by repeat (first | (with_reducible first | exact Below.refl _ _ | apply below_alloc | apply pw_below_drewN | apply below_drew1)))) HI.out).mono ?_
      rw [HS0.out]
      rintro e w13 ⟨rfl, hd⟩
      have HX2 := Aside0.mk ((HX.out.below (by repeat (first | (with_reducible first | exact Below.refl _ _ | apply below_alloc | apply pw_below_drewN | apply below_drew1)))).below hd.below)
      clear HX hd k2 k4
      obtain ⟨Ao, co, eo⟩ := Kd.R_slice HX2.out.ro
      subst eo
      obtain ⟨k0, k1, k2, k3, k4, k5, k6, k7, kf⟩ := HX2.out.flds
      have kf0 := kf 0
      have kf1 := kf 1
      have kf2 := kf 2
      have kf3 := kf 3
      clear kf k5 k6 k7
      have B6 := Aside0.mk (blk_below BK9.out HX2.out.bel)
      have h6z0 := (blk_cell B6.out 0).trans rfl
      have h6f0 := blk_frozen B6.out 0
      have h6z1 := (blk_cell B6.out 1).trans rfl
      have h6f1 := blk_frozen B6.out 1
      have h6z2 := (blk_cell B6.out 2).trans rfl
      have h6f2 := blk_frozen B6.out 2
      have h6z3 := (blk_cell B6.out 3).trans rfl
      have h6f3 := blk_frozen B6.out 3
      have hn1 : g6 ≠ gT := NE6T.out
      have hn2 : gT ≠ g6 := fun e => NE6T.out e.symm
      go_wp2_with fail
      refine bodyPost_ret (results_ct rfl _ _ g6 28 #[.slice Ao s.order.length co, .int .i64 s.hits, .int .i64 s.slots, .bool bz] (0, 0) _ rfl (by (with_reducible repeat (first | refine blk_drewN ?_ _ | refine blk_drew ?_ | refine blk_alloc ?_ _)); refine blk_put (cs := #[.slice Ao s.order.length co, .int .i64 s.hits, .int .i64 s.slots, .bool false]) ?_ 3 _ rfl; (with_reducible repeat (first | refine blk_drewN ?_ _ | refine blk_drew ?_ | refine blk_alloc ?_ _)); refine blk_put (cs := #[.slice Ao s.order.length co, .int .i64 s.hits, .int .i64 0, .bool false]) ?_ 2 _ rfl; (with_reducible repeat (first | refine blk_drewN ?_ _ | refine blk_drew ?_ | refine blk_alloc ?_ _)); refine blk_put (cs := #[.slice Ao s.order.length co, .int .i64 0, .int .i64 0, .bool false]) ?_ 1 _ rfl; (with_reducible repeat (first | refine blk_drewN ?_ _ | refine blk_drew ?_ | refine blk_alloc ?_ _)); refine blk_put (cs := #[.slice none 0 0, .int .i64 0, .int .i64 0, .bool false]) ?_ 0 _ rfl; (with_reducible repeat (first | refine blk_drewN ?_ _ | refine blk_drew ?_ | refine blk_alloc ?_ _)); refine blk_far ?_ NE6T.out _; (with_reducible repeat (first | refine blk_drewN ?_ _ | refine blk_drew ?_ | refine blk_alloc ?_ _)); exact B6.out) Try.underlying28 rfl (by kernel_rfl)) rfl ?_
      exact ⟨_, by rw [HBD.out]; rfl, Kd.R_mono (Kd.R_far (p := ⟨g6, 3, none⟩) (Kd.R_far (p := ⟨g6, 2, none⟩) (Kd.R_far (p := ⟨g6, 1, none⟩) (Kd.R_far (p := ⟨g6, 0, none⟩) (Kd.R_far (p := ⟨gT, 3, none⟩) (Kd.R_types (Kd.R_types (Kd.R_lower HX2.out.ro (below_size HB9.out)) HX2.out.blk (by decide)) B6.out (by decide)) (fun _ hk => hk.1.2) _) (fun _ hk => hk.2) _) (fun _ hk => hk.2) _) (fun _ hk => hk.2) _) (fun _ hk => hk.2) _) (fun _ _ => trivial), (by have HBX := Aside0.mk (below_step HB9.out HX2.out.bel); have GET := Aside0.mk (Nat.le_trans (below_size HB9.out) GE.out); repeat (first | (with_reducible first | exact HBX.out | apply below_alloc | apply pw_below_drewN | apply below_drew1 | refine below_set ?_ GE6.out | refine below_set ?_ GET.out) | exact HBX.out))⟩
     have q6 : decide (S > 0) = true := decide_eq_true hpos
     have q6' : decide (0 < S) = true := decide_eq_true hpos
     go_wp2_with fail
     refine (spec_RunTalk.sumc (HX.out.below (by repeat (first | (with_reducible first | exact Below.refl _ _ | apply below_alloc | apply pw_below_drewN | apply below_drew1)))) HI.out).mono ?_
     rw [HS0.out]
     rintro e w12 ⟨rfl, hd⟩
     have HX3 := Aside0.mk ((HX.out.below (by repeat (first | (with_reducible first | exact Below.refl _ _ | apply below_alloc | apply pw_below_drewN | apply below_drew1)))).below hd.below)
     clear HX hd k2 k4
     have HX := HX3
     clear HX3
     go_wp2_with fail
     refine (spec_RunTalk.slot (HX.out.below (by repeat (first | (with_reducible first | exact Below.refl _ _ | apply below_alloc | apply pw_below_drewN | apply below_drew1)))) HI.out (by omega) (HSP.out hpos)).mono ?_
     rintro e w13 ⟨rfl, vo2, Ad2, cd2, hf⟩
     have HX4 := Aside0.mk hf
     have HSI := Aside0.mk (Sk.slot_inv HI.out (by omega))
     have HRS := Aside0.mk (Sk.run_slot (m := l0.length) (s := s) (a := a2) (by rw [HS0.out]; exact hpos) hls)
     clear hf
     go_wp2_with fail
     go_roundg (a2 - (s.slots + 1)).toNat
     case measure => omega
     case rel =>
      refine ⟨Sk.slot l0.length s, vo2, Ad2, cd2, ⟨HX4.out.below (by repeat (first | (with_reducible first | exact Below.refl _ _ | apply below_alloc | apply pw_below_drewN | apply below_drew1)))⟩, ⟨HSI.out.1⟩, ⟨HRS.out.trans HRUN.out⟩, ⟨?_⟩⟩
      rw [HSI.out.2]
      exact ⟨by omega, Nat.le_refl _⟩

end Go.Proofs.Ytnppflmjlnfhpaa.PA
