-- Laid by this session's own program (pr.py) over the translation; Lean checks it.
import Derived.Test.YtnppflmjlnfhpaaPA0
import Derived.Test.YtnppflmjlnfhpaaPA1
import Derived.Test.YtnppflmjlnfhpaaHTalk
namespace Go.Proofs.Ytnppflmjlnfhpaa.PA
open Go.RowKit Go.Proofs.YtnppflmjlnfhpaaW.PrintWords Go.Proofs.YtnppflmjlnfhpaaW.PrintLast Go.Proofs.YtnppflmjlnfhpaaW.PrintMore
attribute [local go_sem] max2_int min2_int max_two min_two max_three min_three max_four min_four   -- for this text's walks alone
set_option linter.unusedVariables false
set_option linter.unusedSimpArgs false

-- NOT PRINTED: function 44 (slices_IndexFunc_int_int)

-- NOT PRINTED: function 39 (slices_ContainsFunc_int_int)

-- NOT PRINTED: function 24 (impl_all_int)

-- NOT PRINTED: function 30 (impl_talker)

/-! ### impl_RunTalk: function 10 -/
-- IMPORT HTalk
def impl_RunTalk.inB (a b c : Int) : Bool := decide (b ≤ a ∧ a ≤ c)
def impl_RunTalk.b1 (l0 : List Int) : Bool := decide ((l0.length : Int) ≤ 6) && l0.all (fun n => decide (0 ≤ n ∧ n ≤ 9))
def impl_RunTalk.b3 (l1 : List Int) : Bool := l1.all (fun n => decide (0 ≤ n ∧ n ≤ 1000))
def impl_RunTalk.fin (l0 l1 : List Int) (a2 : Int) : Tk.St := Tk.run a2.toNat ⟨l0.map Tk.mk, [], 0, 0, l1⟩
def impl_RunTalk.f (l0 : List Int) (l1 : List Int) (a2 : Int) : Option (List Int × Int × Int × Bool × Bool) := if impl_RunTalk.b1 l0 = true ∧ (l1.length : Int) ≤ 200 ∧ impl_RunTalk.b3 l1 = true ∧ impl_RunTalk.inB a2 0 2000 = true then some ((impl_RunTalk.fin l0 l1 a2).order, (impl_RunTalk.fin l0 l1 a2).hits, (impl_RunTalk.fin l0 l1 a2).slots, !((impl_RunTalk.fin l0 l1 a2).ts.any Tk.busyP), true) else some (([] : List Int), 0, 0, false, false)
theorem impl_RunTalk.draw (w : World) : H.PredInt 28 #[] (fun n => decide (0 ≤ n ∧ n ≤ 1000)) w := by
 intro W x hb
 have hw : impl_isDraw.f x = some (decide (0 ≤ x ∧ x ≤ 1000)) := by unfold impl_isDraw.f impl_within.f; by_cases h : 0 ≤ x <;> simp [h]
 exact (impl_isDraw.calls x _ W hw).mono fun e w' ⟨he, hd⟩ => ⟨he, hd.below⟩
theorem impl_RunTalk.all3 (A : Option Addr) (c : Nat) (l : List Int) (w : World) (hr : Kd.C (Kd.int .i64) w A l.length l) :
  Calls Try.prog 24 #[.slice A l.length c, .func (.func 28) #[] #[]] w fun e w' => e = .returned (.bool (impl_RunTalk.b3 l)) ∧ Below w.heap.size w w' :=
 H.all_int _ 28 #[] (enters_of Try.func28 (by kernel_rfl) rfl) A c l w (impl_RunTalk.draw w) hr
theorem impl_RunTalk.slots (a : Int) (w : World) : Calls Try.prog 29 #[.int .i64 a] w fun e w' => e = .returned (.bool (impl_RunTalk.inB a 0 2000)) ∧ Drawn0 w w' :=
 impl_slotsOk.calls a _ w (by unfold impl_slotsOk.f impl_within.f impl_RunTalk.inB; by_cases h : 0 ≤ a <;> simp [h])
theorem impl_RunTalk.inv0 {l0 l1 : List Int} (h0 : l0.length ≤ 6 ∧ ∀ x ∈ l0, 0 ≤ x ∧ x ≤ 9) (h1 : ∀ x ∈ l1, 0 ≤ x ∧ x ≤ 1000) : Tk.Inv ⟨l0.map Tk.mk, [], 0, 0, l1⟩ := by
 refine ⟨by simpa using h0.1, ⟨Int.le_refl _, by show (0 : Int) ≤ 2000; omega⟩, fun i hi => ?_, h1, ⟨Int.le_refl _, Int.le_refl _⟩, Int.le_refl _⟩
 have hi' : i < l0.length := by simpa using hi
 have e : (l0.map Tk.mk).getD i z50 = Tk.mk l0[i] := by simp [List.getD_eq_getElem?_getD, hi']
 have hx := h0.2 _ (List.getElem_mem hi')
 show ((-(20 * (0 : Int)) ≤ ((l0.map Tk.mk).getD i z50).f0 ∧ _) ∧ _)
 rw [e]
 exact ⟨⟨by show -(20 * (0 : Int)) ≤ l0[i]; omega, by show l0[i] ≤ 9; omega⟩, ⟨by show -(20 * (0 : Int)) ≤ 0; omega, by show (0 : Int) ≤ 1000; omega⟩, Int.le_refl _, by show (0 : Int) ≤ 20 * 0; omega⟩
theorem impl_RunTalk.run_stop {s : Tk.St} (h : s.ts.any Tk.busyP = false) : ∀ n, Tk.run n s = s := by
 intro n
 cases n with
 | zero => rfl
 | succ n => rw [Tk.run, if_neg (by rw [h]; decide)]
def impl_RunTalk.T21 : Bool × List (List Nat × List Nat) := (true, [([], []), ([0], [0]), ([], []), ([2], [2]), ([3], [3]), ([4], [4]), ([1, 5], [1, 5]), ([0, 1, 2, 3, 4, 5, 6], []), ([7, 6, 6, 0, 1, 2, 3, 4, 5, 6], [6, 7])])
def impl_RunTalk.B21 : List Nat := [0, 1, 0, 4, 12, 28, 63, 127, 255]
theorem impl_RunTalk.tab21 : rtab .any (opsOf Try.f10 21) = impl_RunTalk.T21 := by kernel_rfl
theorem impl_RunTalk.bits21 : waitsOk impl_RunTalk.T21.2 impl_RunTalk.B21 = true := by kernel_rfl
def impl_RunTalk.T31 : Bool × List (List Nat × List Nat) := (true, [([], []), ([], []), ([], []), ([], []), ([2, 3], [2, 3]), ([4], [4]), ([5], [5]), ([], []), ([6, 7], [6, 7]), ([0, 1, 0, 1, 2, 3, 4, 5, 6, 7, 8], [0, 1]), ([9, 0, 1, 2, 3, 4, 5, 6, 7, 8], [9]), ([10, 8, 8, 0, 1, 2, 3, 4, 5, 6, 7, 8], [8, 10])])
def impl_RunTalk.B31 : List Nat := [0, 0, 0, 0, 12, 28, 60, 0, 252, 511, 1023, 2047]
theorem impl_RunTalk.tab31 : rtab .any (opsOf Try.f10 31) = impl_RunTalk.T31 := by kernel_rfl
theorem impl_RunTalk.bits31 : waitsOk impl_RunTalk.T31.2 impl_RunTalk.B31 = true := by kernel_rfl
set_option maxHeartbeats 16000000 in
set_option maxRecDepth 100000 in
theorem impl_RunTalk.calls (A0 : Option Addr) (c0 : Nat) (l0 : List Int) (A1 : Option Addr) (c1 : Nat) (l1 : List Int) (a2 : Int) (r1 : List Int) (r2 : Int) (r3 : Int) (r4 : Bool) (r5 : Bool) (w : World) (hr0 : Kd.C (Kd.int .i64) w A0 l0.length l0) (hc0 : l0.length ≤ c0) (hr1 : Kd.C (Kd.int .i64) w A1 l1.length l1) (hc1 : l1.length ≤ c1) (h : impl_RunTalk.f l0 l1 a2 = some (r1, r2, r3, r4, r5)) :
  Calls Try.prog 10 #[.slice A0 l0.length c0, .slice A1 l1.length c1, .int .i64 a2] w fun e w' => ∃ v0_ : Value, e = .returned (.tuple #[.agg #[v0_, .int .i64 r2, .int .i64 r3, .bool r4], .bool r5]) ∧ Kd.R (Kd.int .i64) 3 w' w.heap.size (fun _ => True) v0_ r1 ∧ Below w.heap.size w w' := by
 unfold impl_RunTalk.f at h
 have HR0 := Aside0.mk hr0
 have HR1 := Aside0.mk hr1
 have HC0 := Aside0.mk hc0
 have HC1 := Aside0.mk hc1
 have HB0 := Aside0.mk (Below.refl w.heap.size w)
 have HV := Aside0.mk (show impl_TalkValid.f l0 = some (impl_RunTalk.b1 l0) from rfl)
 have hl1 : l1.length ≤ 9223372036854775807 := hr1.2.1
 clear hr0 hr1 hc0 hc1
 cases hv1 : impl_RunTalk.b1 l0 with
 | false =>
  rw [hv1] at HV
  rw [if_neg (fun hh => by rw [hv1] at hh; exact absurd hh.1 (by decide))] at h
  simp only [Option.some.injEq, Prod.mk.injEq] at h
  obtain ⟨rfl, rfl, rfl, rfl, rfl⟩ := h
  clear hv1
  go_enter Try.func10, Try.ntmps10
  go_wp2_with (first | ((with_reducible refine gate_dst (N := 6) rfl ?_); refine box_event ?hg (N := 6) ?hd (cs := #[.slice none 0 0, .int .i64 0, .int .i64 0, .bool false]) (t := 28) ?hr ?_; (case hd => rfl); (case hg => rfl); (case hr => first | (go_simp; done) | (go_simp; rfl)); intro g6 hg w1 hbox hb; have GE6 := Aside0.mk (show w.heap.size ≤ g6 from by rw [hg]; exact below_size (by repeat (first | (with_reducible first | exact HB0.out | apply below_alloc | apply pw_below_drewN | apply below_drew1) | exact HB0.out))); have BK6 := Aside0.mk hbox; have HB1 := Aside0.mk (below_step (by repeat (first | (with_reducible first | exact HB0.out | apply below_alloc | apply pw_below_drewN | apply below_drew1) | exact HB0.out)) hb); clear hbox hb hg HB0))
  refine (impl_TalkValid.calls A0 c0 l0 _ _ (Kd.C_below HR0.out (by repeat (first | (with_reducible first | exact HB1.out | apply below_alloc | apply pw_below_drewN | apply below_drew1) | exact HB1.out))) HC0.out HV.out).mono ?_
  rintro e w2 ⟨rfl, hb⟩
  have BK6b := Aside0.mk (blk_below (by (with_reducible repeat (first | refine blk_drewN ?_ _ | refine blk_drew ?_ | refine blk_alloc ?_ _)); exact BK6.out) hb)
  have HB2 := Aside0.mk (below_step (by repeat (first | (with_reducible first | exact HB1.out | apply below_alloc | apply pw_below_drewN | apply below_drew1) | exact HB1.out)) hb)
  clear hb HB1 BK6
  have hz0 := (blk_cell BK6b.out 0).trans rfl
  have hf0 := blk_frozen BK6b.out 0
  have hz1 := (blk_cell BK6b.out 1).trans rfl
  have hf1 := blk_frozen BK6b.out 1
  have hz2 := (blk_cell BK6b.out 2).trans rfl
  have hf2 := blk_frozen BK6b.out 2
  have hz3 := (blk_cell BK6b.out 3).trans rfl
  have hf3 := blk_frozen BK6b.out 3
  go_wp2_with fail
  refine bodyPost_ret (results_ct rfl _ _ g6 28 #[.slice none 0 0, .int .i64 0, .int .i64 0, .bool false] (0, 0) _ rfl (by (with_reducible repeat (first | refine blk_drewN ?_ _ | refine blk_drew ?_ | refine blk_alloc ?_ _)); refine blk_put (cs := #[.slice none 0 0, .int .i64 0, .int .i64 0, .bool false]) ?_ 3 _ rfl; (with_reducible repeat (first | refine blk_drewN ?_ _ | refine blk_drew ?_ | refine blk_alloc ?_ _)); refine blk_put (cs := #[.slice none 0 0, .int .i64 0, .int .i64 0, .bool false]) ?_ 2 _ rfl; (with_reducible repeat (first | refine blk_drewN ?_ _ | refine blk_drew ?_ | refine blk_alloc ?_ _)); refine blk_put (cs := #[.slice none 0 0, .int .i64 0, .int .i64 0, .bool false]) ?_ 1 _ rfl; (with_reducible repeat (first | refine blk_drewN ?_ _ | refine blk_drew ?_ | refine blk_alloc ?_ _)); refine blk_put (cs := #[.slice none 0 0, .int .i64 0, .int .i64 0, .bool false]) ?_ 0 _ rfl; (with_reducible repeat (first | refine blk_drewN ?_ _ | refine blk_drew ?_ | refine blk_alloc ?_ _)); exact BK6b.out) Try.underlying28 rfl (by kernel_rfl)) rfl ?_
  exact ⟨_, rfl, Kd.R_nil _ _ _ _ _, (by repeat (first | (with_reducible first | exact HB2.out | apply below_alloc | apply pw_below_drewN | apply below_drew1 | refine below_set ?_ GE6.out) | exact HB2.out))⟩
 | true =>
  rw [hv1] at HV
  by_cases hv2 : (l1.length : Int) ≤ 200
  rotate_left 1
  ·rw [if_neg (fun hh => hv2 hh.2.1)] at h
   simp only [Option.some.injEq, Prod.mk.injEq] at h
   obtain ⟨rfl, rfl, rfl, rfl, rfl⟩ := h
   have q2 : decide ((l1.length : Int) > 200) = true := decide_eq_true (by omega)
   have q2' : decide (200 < l1.length) = true := decide_eq_true (by omega)
   clear hv1 hv2
   go_enter Try.func10, Try.ntmps10
   go_wp2_with (first | ((with_reducible refine gate_dst (N := 6) rfl ?_); refine box_event ?hg (N := 6) ?hd (cs := #[.slice none 0 0, .int .i64 0, .int .i64 0, .bool false]) (t := 28) ?hr ?_; (case hd => rfl); (case hg => rfl); (case hr => first | (go_simp; done) | (go_simp; rfl)); intro g6 hg w1 hbox hb; have GE6 := Aside0.mk (show w.heap.size ≤ g6 from by rw [hg]; exact below_size (by repeat (first | (with_reducible first | exact HB0.out | apply below_alloc | apply pw_below_drewN | apply below_drew1) | exact HB0.out))); have BK6 := Aside0.mk hbox; have HB1 := Aside0.mk (below_step (by repeat (first | (with_reducible first | exact HB0.out | apply below_alloc | apply pw_below_drewN | apply below_drew1) | exact HB0.out)) hb); clear hbox hb hg HB0))
   refine (impl_TalkValid.calls A0 c0 l0 _ _ (Kd.C_below HR0.out (by repeat (first | (with_reducible first | exact HB1.out | apply below_alloc | apply pw_below_drewN | apply below_drew1) | exact HB1.out))) HC0.out HV.out).mono ?_
   rintro e w2 ⟨rfl, hb⟩
   have BK6b := Aside0.mk (blk_below (by (with_reducible repeat (first | refine blk_drewN ?_ _ | refine blk_drew ?_ | refine blk_alloc ?_ _)); exact BK6.out) hb)
   have HB2 := Aside0.mk (below_step (by repeat (first | (with_reducible first | exact HB1.out | apply below_alloc | apply pw_below_drewN | apply below_drew1) | exact HB1.out)) hb)
   clear hb HB1 BK6
   have hz0 := (blk_cell BK6b.out 0).trans rfl
   have hf0 := blk_frozen BK6b.out 0
   have hz1 := (blk_cell BK6b.out 1).trans rfl
   have hf1 := blk_frozen BK6b.out 1
   have hz2 := (blk_cell BK6b.out 2).trans rfl
   have hf2 := blk_frozen BK6b.out 2
   have hz3 := (blk_cell BK6b.out 3).trans rfl
   have hf3 := blk_frozen BK6b.out 3
   go_wp2_with fail
   refine bodyPost_ret (results_ct rfl _ _ g6 28 #[.slice none 0 0, .int .i64 0, .int .i64 0, .bool false] (0, 0) _ rfl (by (with_reducible repeat (first | refine blk_drewN ?_ _ | refine blk_drew ?_ | refine blk_alloc ?_ _)); refine blk_put (cs := #[.slice none 0 0, .int .i64 0, .int .i64 0, .bool false]) ?_ 3 _ rfl; (with_reducible repeat (first | refine blk_drewN ?_ _ | refine blk_drew ?_ | refine blk_alloc ?_ _)); refine blk_put (cs := #[.slice none 0 0, .int .i64 0, .int .i64 0, .bool false]) ?_ 2 _ rfl; (with_reducible repeat (first | refine blk_drewN ?_ _ | refine blk_drew ?_ | refine blk_alloc ?_ _)); refine blk_put (cs := #[.slice none 0 0, .int .i64 0, .int .i64 0, .bool false]) ?_ 1 _ rfl; (with_reducible repeat (first | refine blk_drewN ?_ _ | refine blk_drew ?_ | refine blk_alloc ?_ _)); refine blk_put (cs := #[.slice none 0 0, .int .i64 0, .int .i64 0, .bool false]) ?_ 0 _ rfl; (with_reducible repeat (first | refine blk_drewN ?_ _ | refine blk_drew ?_ | refine blk_alloc ?_ _)); exact BK6b.out) Try.underlying28 rfl (by kernel_rfl)) rfl ?_
   exact ⟨_, rfl, Kd.R_nil _ _ _ _ _, (by repeat (first | (with_reducible first | exact HB2.out | apply below_alloc | apply pw_below_drewN | apply below_drew1 | refine below_set ?_ GE6.out) | exact HB2.out))⟩
  have q2 : decide ((l1.length : Int) > 200) = false := decide_eq_false (by omega)
  have q2' : decide (200 < l1.length) = false := decide_eq_false (by omega)
  cases hv3 : impl_RunTalk.b3 l1 with
  | false =>
   rw [if_neg (fun hh => by rw [hv3] at hh; exact absurd hh.2.2.1 (by decide))] at h
   simp only [Option.some.injEq, Prod.mk.injEq] at h
   obtain ⟨rfl, rfl, rfl, rfl, rfl⟩ := h
   clear hv1 hv2
   go_enter Try.func10, Try.ntmps10
   go_wp2_with (first | ((with_reducible refine gate_dst (N := 6) rfl ?_); refine box_event ?hg (N := 6) ?hd (cs := #[.slice none 0 0, .int .i64 0, .int .i64 0, .bool false]) (t := 28) ?hr ?_; (case hd => rfl); (case hg => rfl); (case hr => first | (go_simp; done) | (go_simp; rfl)); intro g6 hg w1 hbox hb; have GE6 := Aside0.mk (show w.heap.size ≤ g6 from by rw [hg]; exact below_size (by repeat (first | (with_reducible first | exact HB0.out | apply below_alloc | apply pw_below_drewN | apply below_drew1) | exact HB0.out))); have BK6 := Aside0.mk hbox; have HB1 := Aside0.mk (below_step (by repeat (first | (with_reducible first | exact HB0.out | apply below_alloc | apply pw_below_drewN | apply below_drew1) | exact HB0.out)) hb); clear hbox hb hg HB0))
   refine (impl_TalkValid.calls A0 c0 l0 _ _ (Kd.C_below HR0.out (by repeat (first | (with_reducible first | exact HB1.out | apply below_alloc | apply pw_below_drewN | apply below_drew1) | exact HB1.out))) HC0.out HV.out).mono ?_
   rintro e w2 ⟨rfl, hb⟩
   have BK6b := Aside0.mk (blk_below (by (with_reducible repeat (first | refine blk_drewN ?_ _ | refine blk_drew ?_ | refine blk_alloc ?_ _)); exact BK6.out) hb)
   have HB2 := Aside0.mk (below_step (by repeat (first | (with_reducible first | exact HB1.out | apply below_alloc | apply pw_below_drewN | apply below_drew1) | exact HB1.out)) hb)
   clear hb HB1 BK6
   go_wp2_with fail
   refine (impl_RunTalk.all3 A1 c1 l1 _ (Kd.C_below HR1.out (by repeat (first | (with_reducible first | exact HB2.out | apply below_alloc | apply pw_below_drewN | apply below_drew1) | exact HB2.out)))).mono ?_
   rw [hv3]
   rintro e w3 ⟨rfl, hb⟩
   have BK6c := Aside0.mk (blk_below (by (with_reducible repeat (first | refine blk_drewN ?_ _ | refine blk_drew ?_ | refine blk_alloc ?_ _)); exact BK6b.out) hb)
   have HB3 := Aside0.mk (below_step (by repeat (first | (with_reducible first | exact HB2.out | apply below_alloc | apply pw_below_drewN | apply below_drew1) | exact HB2.out)) hb)
   clear hb HB2 BK6b
   have BK6b := BK6c
   have HB2 := HB3
   clear BK6c HB3
   have hz0 := (blk_cell BK6b.out 0).trans rfl
   have hf0 := blk_frozen BK6b.out 0
   have hz1 := (blk_cell BK6b.out 1).trans rfl
   have hf1 := blk_frozen BK6b.out 1
   have hz2 := (blk_cell BK6b.out 2).trans rfl
   have hf2 := blk_frozen BK6b.out 2
   have hz3 := (blk_cell BK6b.out 3).trans rfl
   have hf3 := blk_frozen BK6b.out 3
   go_wp2_with fail
   refine bodyPost_ret (results_ct rfl _ _ g6 28 #[.slice none 0 0, .int .i64 0, .int .i64 0, .bool false] (0, 0) _ rfl (by (with_reducible repeat (first | refine blk_drewN ?_ _ | refine blk_drew ?_ | refine blk_alloc ?_ _)); refine blk_put (cs := #[.slice none 0 0, .int .i64 0, .int .i64 0, .bool false]) ?_ 3 _ rfl; (with_reducible repeat (first | refine blk_drewN ?_ _ | refine blk_drew ?_ | refine blk_alloc ?_ _)); refine blk_put (cs := #[.slice none 0 0, .int .i64 0, .int .i64 0, .bool false]) ?_ 2 _ rfl; (with_reducible repeat (first | refine blk_drewN ?_ _ | refine blk_drew ?_ | refine blk_alloc ?_ _)); refine blk_put (cs := #[.slice none 0 0, .int .i64 0, .int .i64 0, .bool false]) ?_ 1 _ rfl; (with_reducible repeat (first | refine blk_drewN ?_ _ | refine blk_drew ?_ | refine blk_alloc ?_ _)); refine blk_put (cs := #[.slice none 0 0, .int .i64 0, .int .i64 0, .bool false]) ?_ 0 _ rfl; (with_reducible repeat (first | refine blk_drewN ?_ _ | refine blk_drew ?_ | refine blk_alloc ?_ _)); exact BK6b.out) Try.underlying28 rfl (by kernel_rfl)) rfl ?_
   exact ⟨_, rfl, Kd.R_nil _ _ _ _ _, (by repeat (first | (with_reducible first | exact HB2.out | apply below_alloc | apply pw_below_drewN | apply below_drew1 | refine below_set ?_ GE6.out) | exact HB2.out))⟩
  | true =>
   cases hv4 : impl_RunTalk.inB a2 0 2000 with
   | false =>
    rw [if_neg (fun hh => by rw [hv4] at hh; exact absurd hh.2.2.2 (by decide))] at h
    simp only [Option.some.injEq, Prod.mk.injEq] at h
    obtain ⟨rfl, rfl, rfl, rfl, rfl⟩ := h
    clear hv1 hv2
    go_enter Try.func10, Try.ntmps10
    go_wp2_with (first | ((with_reducible refine gate_dst (N := 6) rfl ?_); refine box_event ?hg (N := 6) ?hd (cs := #[.slice none 0 0, .int .i64 0, .int .i64 0, .bool false]) (t := 28) ?hr ?_; (case hd => rfl); (case hg => rfl); (case hr => first | (go_simp; done) | (go_simp; rfl)); intro g6 hg w1 hbox hb; have GE6 := Aside0.mk (show w.heap.size ≤ g6 from by rw [hg]; exact below_size (by repeat (first | (with_reducible first | exact HB0.out | apply below_alloc | apply pw_below_drewN | apply below_drew1) | exact HB0.out))); have BK6 := Aside0.mk hbox; have HB1 := Aside0.mk (below_step (by repeat (first | (with_reducible first | exact HB0.out | apply below_alloc | apply pw_below_drewN | apply below_drew1) | exact HB0.out)) hb); clear hbox hb hg HB0))
    refine (impl_TalkValid.calls A0 c0 l0 _ _ (Kd.C_below HR0.out (by repeat (first | (with_reducible first | exact HB1.out | apply below_alloc | apply pw_below_drewN | apply below_drew1) | exact HB1.out))) HC0.out HV.out).mono ?_
    rintro e w2 ⟨rfl, hb⟩
    have BK6b := Aside0.mk (blk_below (by (with_reducible repeat (first | refine blk_drewN ?_ _ | refine blk_drew ?_ | refine blk_alloc ?_ _)); exact BK6.out) hb)
    have HB2 := Aside0.mk (below_step (by repeat (first | (with_reducible first | exact HB1.out | apply below_alloc | apply pw_below_drewN | apply below_drew1) | exact HB1.out)) hb)
    clear hb HB1 BK6
    go_wp2_with fail
    refine (impl_RunTalk.all3 A1 c1 l1 _ (Kd.C_below HR1.out (by repeat (first | (with_reducible first | exact HB2.out | apply below_alloc | apply pw_below_drewN | apply below_drew1) | exact HB2.out)))).mono ?_
    rw [hv3]
    rintro e w3 ⟨rfl, hb⟩
    have BK6c := Aside0.mk (blk_below (by (with_reducible repeat (first | refine blk_drewN ?_ _ | refine blk_drew ?_ | refine blk_alloc ?_ _)); exact BK6b.out) hb)
    have HB3 := Aside0.mk (below_step (by repeat (first | (with_reducible first | exact HB2.out | apply below_alloc | apply pw_below_drewN | apply below_drew1) | exact HB2.out)) hb)
    clear hb HB2 BK6b
    have BK6b := BK6c
    have HB2 := HB3
    clear BK6c HB3
    go_wp2_with fail
    refine (impl_RunTalk.slots a2 _).mono ?_
    rw [hv4]
    rintro e w' ⟨rfl, ⟨nd, rfl⟩⟩
    have hz0 := (blk_cell BK6b.out 0).trans rfl
    have hf0 := blk_frozen BK6b.out 0
    have hz1 := (blk_cell BK6b.out 1).trans rfl
    have hf1 := blk_frozen BK6b.out 1
    have hz2 := (blk_cell BK6b.out 2).trans rfl
    have hf2 := blk_frozen BK6b.out 2
    have hz3 := (blk_cell BK6b.out 3).trans rfl
    have hf3 := blk_frozen BK6b.out 3
    go_wp2_with fail
    refine bodyPost_ret (results_ct rfl _ _ g6 28 #[.slice none 0 0, .int .i64 0, .int .i64 0, .bool false] (0, 0) _ rfl (by (with_reducible repeat (first | refine blk_drewN ?_ _ | refine blk_drew ?_ | refine blk_alloc ?_ _)); refine blk_put (cs := #[.slice none 0 0, .int .i64 0, .int .i64 0, .bool false]) ?_ 3 _ rfl; (with_reducible repeat (first | refine blk_drewN ?_ _ | refine blk_drew ?_ | refine blk_alloc ?_ _)); refine blk_put (cs := #[.slice none 0 0, .int .i64 0, .int .i64 0, .bool false]) ?_ 2 _ rfl; (with_reducible repeat (first | refine blk_drewN ?_ _ | refine blk_drew ?_ | refine blk_alloc ?_ _)); refine blk_put (cs := #[.slice none 0 0, .int .i64 0, .int .i64 0, .bool false]) ?_ 1 _ rfl; (with_reducible repeat (first | refine blk_drewN ?_ _ | refine blk_drew ?_ | refine blk_alloc ?_ _)); refine blk_put (cs := #[.slice none 0 0, .int .i64 0, .int .i64 0, .bool false]) ?_ 0 _ rfl; (with_reducible repeat (first | refine blk_drewN ?_ _ | refine blk_drew ?_ | refine blk_alloc ?_ _)); exact BK6b.out) Try.underlying28 rfl (by kernel_rfl)) rfl ?_
    exact ⟨_, rfl, Kd.R_nil _ _ _ _ _, (by repeat (first | (with_reducible first | exact HB2.out | apply below_alloc | apply pw_below_drewN | apply below_drew1 | refine below_set ?_ GE6.out) | exact HB2.out))⟩
   | true =>
    rw [if_pos ⟨hv1, hv2, hv3, hv4⟩] at h
    simp only [Option.some.injEq, Prod.mk.injEq] at h
    obtain ⟨rfl, rfl, rfl, rfl, rfl⟩ := h
    have ha2 : 0 ≤ a2 ∧ a2 ≤ 2000 := of_decide_eq_true hv4
    have hl0 : l0.length ≤ 6 ∧ ∀ x ∈ l0, 0 ≤ x ∧ x ≤ 9 := by
     have hh := hv1
     simp only [impl_RunTalk.b1, Bool.and_eq_true, decide_eq_true_eq, List.all_eq_true] at hh
     exact ⟨by omega, hh.2⟩
    have hd1 : ∀ x ∈ l1, 0 ≤ x ∧ x ≤ 1000 := by
     have hh := hv3
     simp only [impl_RunTalk.b3, decide_eq_true_eq, List.all_eq_true] at hh
     exact hh
    have HL0 := Aside0.mk hl0
    have HD1 := Aside0.mk hd1
    clear hv1 hv2 hl0 hd1
    go_enter Try.func10, Try.ntmps10
    go_wp2_with (first | ((with_reducible refine gate_dst (N := 6) rfl ?_); refine box_event ?hg (N := 6) ?hd (cs := #[.slice none 0 0, .int .i64 0, .int .i64 0, .bool false]) (t := 28) ?hr ?_; (case hd => rfl); (case hg => rfl); (case hr => first | (go_simp; done) | (go_simp; rfl)); intro g6 hg w1 hbox hb; have GE6 := Aside0.mk (show w.heap.size ≤ g6 from by rw [hg]; exact below_size (by repeat (first | (with_reducible first | exact HB0.out | apply below_alloc | apply pw_below_drewN | apply below_drew1) | exact HB0.out))); have BK6 := Aside0.mk hbox; have HB1 := Aside0.mk (below_step (by repeat (first | (with_reducible first | exact HB0.out | apply below_alloc | apply pw_below_drewN | apply below_drew1) | exact HB0.out)) hb); clear hbox hb hg HB0))
    refine (impl_TalkValid.calls A0 c0 l0 _ _ (Kd.C_below HR0.out (by repeat (first | (with_reducible first | exact HB1.out | apply below_alloc | apply pw_below_drewN | apply below_drew1) | exact HB1.out))) HC0.out HV.out).mono ?_
    rintro e w2 ⟨rfl, hb⟩
    have BK6b := Aside0.mk (blk_below (by (with_reducible repeat (first | refine blk_drewN ?_ _ | refine blk_drew ?_ | refine blk_alloc ?_ _)); exact BK6.out) hb)
    have HB2 := Aside0.mk (below_step (by repeat (first | (with_reducible first | exact HB1.out | apply below_alloc | apply pw_below_drewN | apply below_drew1) | exact HB1.out)) hb)
    clear hb HB1 BK6
    go_wp2_with fail
    refine (impl_RunTalk.all3 A1 c1 l1 _ (Kd.C_below HR1.out (by repeat (first | (with_reducible first | exact HB2.out | apply below_alloc | apply pw_below_drewN | apply below_drew1) | exact HB2.out)))).mono ?_
    rw [hv3]
    rintro e w3 ⟨rfl, hb⟩
    have BK6c := Aside0.mk (blk_below (by (with_reducible repeat (first | refine blk_drewN ?_ _ | refine blk_drew ?_ | refine blk_alloc ?_ _)); exact BK6b.out) hb)
    have HB3 := Aside0.mk (below_step (by repeat (first | (with_reducible first | exact HB2.out | apply below_alloc | apply pw_below_drewN | apply below_drew1) | exact HB2.out)) hb)
    clear hb HB2 BK6b
    have BK6b := BK6c
    have HB2 := HB3
    clear BK6c HB3
    go_wp2_with fail
    refine (impl_RunTalk.slots a2 _).mono ?_
    rw [hv4]
    rintro e w' ⟨rfl, ⟨nd, rfl⟩⟩
    go_wp2_with (first | ((with_reducible refine gate_dst (N := 8) rfl ?_); refine box_event ?hg (N := 8) ?hd (cs := #[.slice none 0 0, .int .i64 0, .int .i64 0, .bool false]) (t := 28) ?hr ?_; (case hd => rfl); (case hg => rfl); (case hr => first | (go_simp; done) | (go_simp; rfl)); intro g8 hg w4 hbox hb; have GE8 := Aside0.mk (show w.heap.size ≤ g8 from by rw [hg]; exact below_size (by repeat (first | (with_reducible first | exact HB2.out | apply below_alloc | apply pw_below_drewN | apply below_drew1) | exact HB2.out))); have NE68 := Aside0.mk (show g6 ≠ g8 from by rw [hg]; exact Nat.ne_of_lt (blk_lt (by (with_reducible repeat (first | refine blk_drewN ?_ _ | refine blk_drew ?_ | refine blk_alloc ?_ _)); exact BK6b.out))); have BK8 := Aside0.mk hbox; have BK6d := Aside0.mk (blk_below (by (with_reducible repeat (first | refine blk_drewN ?_ _ | refine blk_drew ?_ | refine blk_alloc ?_ _)); exact BK6b.out) hb); have HB4 := Aside0.mk (below_step (by repeat (first | (with_reducible first | exact HB2.out | apply below_alloc | apply pw_below_drewN | apply below_drew1) | exact HB2.out)) hb); clear hbox hb hg HB2 BK6b))
    refine (Tk.mapped A0 c0 l0 (by have := HL0.out.1; omega) _ (Kd.C_below HR0.out (by repeat (first | (with_reducible first | exact HB4.out | apply below_alloc | apply pw_below_drewN | apply below_drew1) | exact HB4.out)))).mono ?_
    rintro e w5 ⟨vt, rfl, ho, hb⟩
    obtain ⟨At, ct, et⟩ := Kd.R_slice ho
    rw [List.length_map] at et
    subst et
    have HT5 := Aside0.mk (Kd.R_lower ho (below_size (by repeat (first | (with_reducible first | exact HB4.out | apply below_alloc | apply pw_below_drewN | apply below_drew1) | exact HB4.out))))
    have HB5 := Aside0.mk (below_step (by repeat (first | (with_reducible first | exact HB4.out | apply below_alloc | apply pw_below_drewN | apply below_drew1) | exact HB4.out)) hb)
    have BK6e := Aside0.mk (blk_below (by (with_reducible repeat (first | refine blk_drewN ?_ _ | refine blk_drew ?_ | refine blk_alloc ?_ _)); exact BK6d.out) hb)
    have BK8e := Aside0.mk (blk_below (by (with_reducible repeat (first | refine blk_drewN ?_ _ | refine blk_drew ?_ | refine blk_alloc ?_ _)); exact BK8.out) hb)
    clear ho hb HB4 BK6d BK8
    go_wp2_with (first | ((with_reducible refine gate_dst (N := 9) rfl ?_); refine box_event ?hg (N := 9) ?hd (cs := #[.slice none 0 0]) (t := 47) ?hr ?_; (case hd => rfl); (case hg => rfl); (case hr => first | (go_simp; done) | (go_simp; rfl)); intro g9 hg w6 hbox hb; have GE9 := Aside0.mk (show w.heap.size ≤ g9 from by rw [hg]; exact below_size (by repeat (first | (with_reducible first | exact HB5.out | apply below_alloc | apply pw_below_drewN | apply below_drew1) | exact HB5.out))); have BK9 := Aside0.mk hbox; have BK6f := Aside0.mk (blk_below (by (with_reducible repeat (first | refine blk_drewN ?_ _ | refine blk_drew ?_ | refine blk_alloc ?_ _)); exact BK6e.out) hb); have BK8f := Aside0.mk (blk_below (by (with_reducible repeat (first | refine blk_drewN ?_ _ | refine blk_drew ?_ | refine blk_alloc ?_ _)); exact BK8e.out) hb); have HT6 := Aside0.mk (Kd.R_below (by (with_reducible repeat (first | apply Kd.R_alloc | apply Kd.R_drewN | apply Kd.R_drew)); exact HT5.out) hb); have HB6 := Aside0.mk (below_step (by repeat (first | (with_reducible first | exact HB5.out | apply below_alloc | apply pw_below_drewN | apply below_drew1) | exact HB5.out)) hb); have hz9 := (blk_cell hbox 0).trans rfl; have hf9 := blk_frozen hbox 0; clear hbox hb hg HB5 BK6e BK8e HT5))
    clear hz9 hf9
    have NE69 := Aside0.mk (blk_ne BK6f.out BK9.out (by decide))
    have NE89 := Aside0.mk (blk_ne BK8f.out BK9.out (by decide))
    have W6 := Aside0.mk (blk_far BK6f.out (p := ⟨g9, 0, none⟩) NE69.out (.slice At l0.length ct))
    have W8 := Aside0.mk (blk_far BK8f.out (p := ⟨g9, 0, none⟩) NE89.out (.slice At l0.length ct))
    have W9 := Aside0.mk (blk_put BK9.out 0 (.slice At l0.length ct) (cs' := #[.slice At l0.length ct]) rfl)
    have WT := Aside0.mk (Kd.R_set HT6.out BK9.out (by decide) 0 (.slice At l0.length ct))
    have WB := Aside0.mk (below_set (j := 0) (v := .slice At l0.length ct) HB6.out GE9.out)
    clear BK6f BK8f BK9 HT6 HB6
    go_loopg [1] (a2.toNat + 1) (fun kq v1 wr => ∃ (s : Tk.St) (A1' : Option Addr) (c1' : Nat) (vo : Value), v1 = .slice A1' s.draws.length c1' ∧ Aside0 (Kd.C (Kd.int .i64) w A1' s.draws.length s.draws) ∧ Aside0 (s.draws.length ≤ c1') ∧ Aside0 (Tk.Inv s) ∧ Aside0 ((a2 - s.slots).toNat ≤ kq) ∧ Aside0 (Tk.run (a2 - s.slots).toNat s = impl_RunTalk.fin l0 l1 a2) ∧ Aside0 (s.ts.length = l0.length) ∧ Aside0 (s.slots ≤ a2) ∧ Aside0 (wr.heap[g6]? = some (.cells #[.slice none 0 0, .int .i64 0, .int .i64 0, .bool false] 28 (0, 0))) ∧ Aside0 (wr.heap[g8]? = some (.cells #[vo, .int .i64 s.hits, .int .i64 s.slots, .bool false] 28 (0, 0))) ∧ Aside0 (wr.heap[g9]? = some (.cells #[.slice At l0.length ct] 47 (0, 0))) ∧ Aside0 (Kd.R (Kd.int .i64) 3 wr w.heap.size (fun _ => True) vo s.order) ∧ Aside0 (Kd.R Tk.K Tk.te wr w.heap.size (fun _ => True) (.slice At l0.length ct) s.ts) ∧ Aside0 (Below w.heap.size w wr))
    case atStart => exact ⟨⟨l0.map Tk.mk, [], 0, 0, l1⟩, A1, c1, .slice none 0 0, rfl, HR1, HC1, ⟨impl_RunTalk.inv0 HL0.out HD1.out⟩, ⟨by show (a2 - 0).toNat ≤ _; omega⟩, ⟨by show Tk.run (a2 - 0).toNat _ = _; rw [Int.sub_zero]; rfl⟩, ⟨List.length_map _⟩, ⟨ha2.1⟩, W6, W8, W9, ⟨Kd.R_nil _ _ _ _ _⟩, WT, WB⟩
    case round =>
     clear W6 W8 W9 WT WB HD1 HL0
     obtain ⟨s, A1', c1', vo, rfl, HD, HDC, HI, HK, HRUN, HN, HSL, B6, B8, B9, RO, RT, HB⟩ := hrel
     have hsl := HI.out.sl
     have hsa := HSL.out
     have hkk := HK.out
     have hz82 := (blk_cell B8.out 2).trans rfl
     have hcall := Tk.busy g9 At ct s.ts wr (by rw [HN.out]; exact (blk_cell B9.out 0).trans rfl) (Kd.R_reads' RT.out).2.2
     have HCALL := Aside0.mk hcall
     clear hcall
     cases hbz : s.ts.any Tk.busyP with
     | false =>
      rw [hbz] at HCALL
      go_wp2_with fail
      refine HCALL.out.mono ?_
      clear HCALL
      rintro e w7 ⟨rfl, hb⟩
      have b6_ := Aside0.mk (blk_below (by (with_reducible repeat (first | refine blk_drewN ?_ _ | refine blk_drew ?_ | refine blk_alloc ?_ _)); exact B6.out) hb)
      have b8_ := Aside0.mk (blk_below (by (with_reducible repeat (first | refine blk_drewN ?_ _ | refine blk_drew ?_ | refine blk_alloc ?_ _)); exact B8.out) hb)
      have b9_ := Aside0.mk (blk_below (by (with_reducible repeat (first | refine blk_drewN ?_ _ | refine blk_drew ?_ | refine blk_alloc ?_ _)); exact B9.out) hb)
      have ro_ := Aside0.mk (Kd.R_below (by (with_reducible repeat (first | apply Kd.R_alloc | apply Kd.R_drewN | apply Kd.R_drew)); exact RO.out) hb)
      have rt_ := Aside0.mk (Kd.R_below (by (with_reducible repeat (first | apply Kd.R_alloc | apply Kd.R_drewN | apply Kd.R_drew)); exact RT.out) hb)
      have hb_ := Aside0.mk (below_step (by repeat (first | (with_reducible first | exact HB.out | apply below_alloc | apply pw_below_drewN | apply below_drew1) | exact HB.out)) hb)
      clear hb B6 B8 B9 RO RT HB
      have B6 := b6_
      have B8 := b8_
      have B9 := b9_
      have RO := ro_
      have RT := rt_
      have HB := hb_
      clear b6_ b8_ b9_ ro_ rt_ hb_
      go_wp2_with fail
      refine (Tk.busy g9 At ct s.ts _ (by rw [HN.out]; exact (blk_cell (by (with_reducible repeat (first | refine blk_drewN ?_ _ | refine blk_drew ?_ | refine blk_alloc ?_ _)); exact B9.out) 0).trans rfl) (Kd.R_reads' (by (with_reducible repeat (first | apply Kd.R_alloc | apply Kd.R_drewN | apply Kd.R_drew)); exact RT.out)).2.2).mono ?_
      rw [hbz]
      rintro e w8 ⟨rfl, hb⟩
      have b6_ := Aside0.mk (blk_below (by (with_reducible repeat (first | refine blk_drewN ?_ _ | refine blk_drew ?_ | refine blk_alloc ?_ _)); exact B6.out) hb)
      have b8_ := Aside0.mk (blk_below (by (with_reducible repeat (first | refine blk_drewN ?_ _ | refine blk_drew ?_ | refine blk_alloc ?_ _)); exact B8.out) hb)
      have b9_ := Aside0.mk (blk_below (by (with_reducible repeat (first | refine blk_drewN ?_ _ | refine blk_drew ?_ | refine blk_alloc ?_ _)); exact B9.out) hb)
      have ro_ := Aside0.mk (Kd.R_below (by (with_reducible repeat (first | apply Kd.R_alloc | apply Kd.R_drewN | apply Kd.R_drew)); exact RO.out) hb)
      have rt_ := Aside0.mk (Kd.R_below (by (with_reducible repeat (first | apply Kd.R_alloc | apply Kd.R_drewN | apply Kd.R_drew)); exact RT.out) hb)
      have hb_ := Aside0.mk (below_step (by repeat (first | (with_reducible first | exact HB.out | apply below_alloc | apply pw_below_drewN | apply below_drew1) | exact HB.out)) hb)
      clear hb B6 B8 B9 RO RT HB
      have B6 := b6_
      have B8 := b8_
      have B9 := b9_
      have RO := ro_
      have RT := rt_
      have HB := hb_
      clear b6_ b8_ b9_ ro_ rt_ hb_
      have hfin : s = impl_RunTalk.fin l0 l1 a2 := by rw [← HRUN.out]; exact (impl_RunTalk.run_stop hbz _).symm
      have HFIN := Aside0.mk hfin
      clear hfin
      obtain ⟨Ao, co, eo⟩ := Kd.R_slice RO.out
      subst eo
      have h8z0 := (blk_cell B8.out 0).trans rfl
      have h8f0 := blk_frozen B8.out 0
      have h8z1 := (blk_cell B8.out 1).trans rfl
      have h8f1 := blk_frozen B8.out 1
      have h8z2 := (blk_cell B8.out 2).trans rfl
      have h8f2 := blk_frozen B8.out 2
      have h8z3 := (blk_cell B8.out 3).trans rfl
      have h8f3 := blk_frozen B8.out 3
      have h6z0 := (blk_cell B6.out 0).trans rfl
      have h6f0 := blk_frozen B6.out 0
      have h6z1 := (blk_cell B6.out 1).trans rfl
      have h6f1 := blk_frozen B6.out 1
      have h6z2 := (blk_cell B6.out 2).trans rfl
      have h6f2 := blk_frozen B6.out 2
      have h6z3 := (blk_cell B6.out 3).trans rfl
      have h6f3 := blk_frozen B6.out 3
      have hn68 : g6 ≠ g8 := NE68.out
      have hn86 : g8 ≠ g6 := fun e => NE68.out e.symm
      go_wp2_with fail
      refine bodyPost_ret (results_ct rfl _ _ g6 28 #[.slice Ao s.order.length co, .int .i64 s.hits, .int .i64 s.slots, .bool true] (0, 0) _ rfl (by (with_reducible repeat (first | refine blk_drewN ?_ _ | refine blk_drew ?_ | refine blk_alloc ?_ _)); refine blk_put (cs := #[.slice Ao s.order.length co, .int .i64 s.hits, .int .i64 s.slots, .bool false]) ?_ 3 _ rfl; (with_reducible repeat (first | refine blk_drewN ?_ _ | refine blk_drew ?_ | refine blk_alloc ?_ _)); refine blk_put (cs := #[.slice Ao s.order.length co, .int .i64 s.hits, .int .i64 0, .bool false]) ?_ 2 _ rfl; (with_reducible repeat (first | refine blk_drewN ?_ _ | refine blk_drew ?_ | refine blk_alloc ?_ _)); refine blk_put (cs := #[.slice Ao s.order.length co, .int .i64 0, .int .i64 0, .bool false]) ?_ 1 _ rfl; (with_reducible repeat (first | refine blk_drewN ?_ _ | refine blk_drew ?_ | refine blk_alloc ?_ _)); refine blk_put (cs := #[.slice none 0 0, .int .i64 0, .int .i64 0, .bool false]) ?_ 0 _ rfl; (with_reducible repeat (first | refine blk_drewN ?_ _ | refine blk_drew ?_ | refine blk_alloc ?_ _)); refine blk_far ?_ NE68.out _; (with_reducible repeat (first | refine blk_drewN ?_ _ | refine blk_drew ?_ | refine blk_alloc ?_ _)); exact B6.out) Try.underlying28 rfl (by kernel_rfl)) rfl ?_
      rw [← HFIN.out, hbz]
      exact ⟨_, rfl, Kd.R_mono (Kd.R_far (p := ⟨g6, 3, none⟩) (Kd.R_far (p := ⟨g6, 2, none⟩) (Kd.R_far (p := ⟨g6, 1, none⟩) (Kd.R_far (p := ⟨g6, 0, none⟩) (Kd.R_far (p := ⟨g8, 3, none⟩) (Kd.R_types (Kd.R_types RO.out B8.out (by decide)) B6.out (by decide)) (fun _ hk => hk.1.2) _) (fun _ hk => hk.2) _) (fun _ hk => hk.2) _) (fun _ hk => hk.2) _) (fun _ hk => hk.2) _) (fun _ _ => trivial), (by repeat (first | (with_reducible first | exact HB.out | apply below_alloc | apply pw_below_drewN | apply below_drew1 | refine below_set ?_ GE6.out | refine below_set ?_ GE8.out) | exact HB.out))⟩
     | true =>
      rw [hbz] at HCALL
      go_wp2_with fail
      refine HCALL.out.mono ?_
      clear HCALL
      rintro e w7 ⟨rfl, hb⟩
      have b6_ := Aside0.mk (blk_below (by (with_reducible repeat (first | refine blk_drewN ?_ _ | refine blk_drew ?_ | refine blk_alloc ?_ _)); exact B6.out) hb)
      have b8_ := Aside0.mk (blk_below (by (with_reducible repeat (first | refine blk_drewN ?_ _ | refine blk_drew ?_ | refine blk_alloc ?_ _)); exact B8.out) hb)
      have b9_ := Aside0.mk (blk_below (by (with_reducible repeat (first | refine blk_drewN ?_ _ | refine blk_drew ?_ | refine blk_alloc ?_ _)); exact B9.out) hb)
      have ro_ := Aside0.mk (Kd.R_below (by (with_reducible repeat (first | apply Kd.R_alloc | apply Kd.R_drewN | apply Kd.R_drew)); exact RO.out) hb)
      have rt_ := Aside0.mk (Kd.R_below (by (with_reducible repeat (first | apply Kd.R_alloc | apply Kd.R_drewN | apply Kd.R_drew)); exact RT.out) hb)
      have hb_ := Aside0.mk (below_step (by repeat (first | (with_reducible first | exact HB.out | apply below_alloc | apply pw_below_drewN | apply below_drew1) | exact HB.out)) hb)
      clear hb B6 B8 B9 RO RT HB
      have B6 := b6_
      have B8 := b8_
      have B9 := b9_
      have RO := ro_
      have RT := rt_
      have HB := hb_
      clear b6_ b8_ b9_ ro_ rt_ hb_
      have h82 := (blk_cell B8.out 2).trans rfl
      by_cases hls : s.slots < a2
      rotate_left 1
      ·have q5 : decide (s.slots < a2) = false := decide_eq_false hls
       go_wp2_with fail
       refine (Tk.busy g9 At ct s.ts _ (by rw [HN.out]; exact (blk_cell (by (with_reducible repeat (first | refine blk_drewN ?_ _ | refine blk_drew ?_ | refine blk_alloc ?_ _)); exact B9.out) 0).trans rfl) (Kd.R_reads' (by (with_reducible repeat (first | apply Kd.R_alloc | apply Kd.R_drewN | apply Kd.R_drew)); exact RT.out)).2.2).mono ?_
       rw [hbz]
       rintro e w8 ⟨rfl, hb⟩
       have b6_ := Aside0.mk (blk_below (by (with_reducible repeat (first | refine blk_drewN ?_ _ | refine blk_drew ?_ | refine blk_alloc ?_ _)); exact B6.out) hb)
       have b8_ := Aside0.mk (blk_below (by (with_reducible repeat (first | refine blk_drewN ?_ _ | refine blk_drew ?_ | refine blk_alloc ?_ _)); exact B8.out) hb)
       have b9_ := Aside0.mk (blk_below (by (with_reducible repeat (first | refine blk_drewN ?_ _ | refine blk_drew ?_ | refine blk_alloc ?_ _)); exact B9.out) hb)
       have ro_ := Aside0.mk (Kd.R_below (by (with_reducible repeat (first | apply Kd.R_alloc | apply Kd.R_drewN | apply Kd.R_drew)); exact RO.out) hb)
       have rt_ := Aside0.mk (Kd.R_below (by (with_reducible repeat (first | apply Kd.R_alloc | apply Kd.R_drewN | apply Kd.R_drew)); exact RT.out) hb)
       have hb_ := Aside0.mk (below_step (by repeat (first | (with_reducible first | exact HB.out | apply below_alloc | apply pw_below_drewN | apply below_drew1) | exact HB.out)) hb)
       clear hb B6 B8 B9 RO RT HB
       have B6 := b6_
       have B8 := b8_
       have B9 := b9_
       have RO := ro_
       have RT := rt_
       have HB := hb_
       clear b6_ b8_ b9_ ro_ rt_ hb_
       have hfin : s = impl_RunTalk.fin l0 l1 a2 := by rw [← HRUN.out, show (a2 - s.slots).toNat = 0 by omega]; rfl
       have HFIN := Aside0.mk hfin
       clear hfin
       obtain ⟨Ao, co, eo⟩ := Kd.R_slice RO.out
       subst eo
       have h8z0 := (blk_cell B8.out 0).trans rfl
       have h8f0 := blk_frozen B8.out 0
       have h8z1 := (blk_cell B8.out 1).trans rfl
       have h8f1 := blk_frozen B8.out 1
       have h8z2 := (blk_cell B8.out 2).trans rfl
       have h8f2 := blk_frozen B8.out 2
       have h8z3 := (blk_cell B8.out 3).trans rfl
       have h8f3 := blk_frozen B8.out 3
       have h6z0 := (blk_cell B6.out 0).trans rfl
       have h6f0 := blk_frozen B6.out 0
       have h6z1 := (blk_cell B6.out 1).trans rfl
       have h6f1 := blk_frozen B6.out 1
       have h6z2 := (blk_cell B6.out 2).trans rfl
       have h6f2 := blk_frozen B6.out 2
       have h6z3 := (blk_cell B6.out 3).trans rfl
       have h6f3 := blk_frozen B6.out 3
       have hn68 : g6 ≠ g8 := NE68.out
       have hn86 : g8 ≠ g6 := fun e => NE68.out e.symm
       go_wp2_with fail
       refine bodyPost_ret (results_ct rfl _ _ g6 28 #[.slice Ao s.order.length co, .int .i64 s.hits, .int .i64 s.slots, .bool false] (0, 0) _ rfl (by (with_reducible repeat (first | refine blk_drewN ?_ _ | refine blk_drew ?_ | refine blk_alloc ?_ _)); refine blk_put (cs := #[.slice Ao s.order.length co, .int .i64 s.hits, .int .i64 s.slots, .bool false]) ?_ 3 _ rfl; (with_reducible repeat (first | refine blk_drewN ?_ _ | refine blk_drew ?_ | refine blk_alloc ?_ _)); refine blk_put (cs := #[.slice Ao s.order.length co, .int .i64 s.hits, .int .i64 0, .bool false]) ?_ 2 _ rfl; (with_reducible repeat (first | refine blk_drewN ?_ _ | refine blk_drew ?_ | refine blk_alloc ?_ _)); refine blk_put (cs := #[.slice Ao s.order.length co, .int .i64 0, .int .i64 0, .bool false]) ?_ 1 _ rfl; (with_reducible repeat (first | refine blk_drewN ?_ _ | refine blk_drew ?_ | refine blk_alloc ?_ _)); refine blk_put (cs := #[.slice none 0 0, .int .i64 0, .int .i64 0, .bool false]) ?_ 0 _ rfl; (with_reducible repeat (first | refine blk_drewN ?_ _ | refine blk_drew ?_ | refine blk_alloc ?_ _)); refine blk_far ?_ NE68.out _; (with_reducible repeat (first | refine blk_drewN ?_ _ | refine blk_drew ?_ | refine blk_alloc ?_ _)); exact B6.out) Try.underlying28 rfl (by kernel_rfl)) rfl ?_
       rw [← HFIN.out, hbz]
       exact ⟨_, rfl, Kd.R_mono (Kd.R_far (p := ⟨g6, 3, none⟩) (Kd.R_far (p := ⟨g6, 2, none⟩) (Kd.R_far (p := ⟨g6, 1, none⟩) (Kd.R_far (p := ⟨g6, 0, none⟩) (Kd.R_far (p := ⟨g8, 3, none⟩) (Kd.R_types (Kd.R_types RO.out B8.out (by decide)) B6.out (by decide)) (fun _ hk => hk.1.2) _) (fun _ hk => hk.2) _) (fun _ hk => hk.2) _) (fun _ hk => hk.2) _) (fun _ hk => hk.2) _) (fun _ _ => trivial), (by repeat (first | (with_reducible first | exact HB.out | apply below_alloc | apply pw_below_drewN | apply below_drew1 | refine below_set ?_ GE6.out | refine below_set ?_ GE8.out) | exact HB.out))⟩
      have q5 : decide (s.slots < a2) = true := decide_eq_true hls
      have e1 : wrap64 (s.slots + 1) = s.slots + 1 := by unfold wrap64; omega
      have e2 : IntKind.i64.wrap (s.slots + 1) = s.slots + 1 := by rw [IntKind.wrap_i64]; omega
      have hne : 0 < s.ts.length := by
       obtain ⟨x, hx, _⟩ := List.any_eq_true.1 hbz
       exact List.length_pos_of_mem hx
      obtain ⟨g, ct', eg, hgb, hgl, cg, hgc⟩ := Kd.R_form RT.out hne
      injection eg with eg1 eg2 eg3
      subst eg1
      have GEg := Aside0.mk hgb
      have HG := Aside0.mk hgc
      clear hgb hgl hgc eg2 eg3
      have NE98 := Aside0.mk (show g9 ≠ g8 from fun e => NE89.out e.symm)
      have hn98 : g9 ≠ g8 := NE98.out
      have h9 := (blk_cell B9.out 0).trans rfl
      have hf82 := blk_frozen B8.out 2
      go_wp2_with fail
      have NEg8 := Aside0.mk (blk_ne HG.out B8.out (by decide))
      have C6 := Aside0.mk (blk_far B6.out (p := ⟨g8, 2, none⟩) NE68.out (.int .i64 (s.slots + 1)))
      have C8 := Aside0.mk (blk_put B8.out 2 (.int .i64 (s.slots + 1)) (cs' := #[vo, .int .i64 s.hits, .int .i64 (s.slots + 1), .bool false]) rfl)
      have C9 := Aside0.mk (blk_far B9.out (p := ⟨g8, 2, none⟩) NE98.out (.int .i64 (s.slots + 1)))
      have CO := Aside0.mk (Kd.R_set RO.out B8.out (by decide) 2 (.int .i64 (s.slots + 1)))
      have CT := Aside0.mk (Kd.R_set RT.out B8.out (by decide) 2 (.int .i64 (s.slots + 1)))
      have CG := Aside0.mk (blk_far HG.out (p := ⟨g8, 2, none⟩) NEg8.out (.int .i64 (s.slots + 1)))
      have CB := Aside0.mk (below_set (j := 2) (v := .int .i64 (s.slots + 1)) HB.out GE8.out)
      clear B6 B8 B9 RO RT HB HG h82 h9 hf82 hn98 q5 e1 e2
      generalize w7.setCell ⟨g8, 2, none⟩ (.int .i64 (s.slots + 1)) = w9 at C6 C8 C9 CO CT CG CB ⊢
      have hn6 : l0.length ≤ 6 := by have := HI.out.t6; rw [HN.out] at this; exact this
      go_loopg [11, 12, 57] l0.length (fun kq v11 v12 v57 wr => ∃ j : Nat, v57 = .int .i64 (j : Int) ∧ Aside0 (j ≤ l0.length ∧ l0.length - j ≤ kq) ∧ Aside0 (Kd.R (Kd.int .i64) 3 wr w9.heap.size (fun k_ => some k_ ≠ (v12 : Value).ownBlock) v11 (Tk.sel Tk.sendP s.ts j)) ∧ Aside0 (Kd.R (Kd.int .i64) 3 wr w9.heap.size (fun k_ => some k_ ≠ (v11 : Value).ownBlock) v12 (Tk.sel Tk.waitP s.ts j)) ∧ Aside0 (Below w9.heap.size w9 wr))
      case atStart => exact ⟨0, rfl, ⟨⟨Nat.zero_le _, by omega⟩⟩, ⟨Kd.R_nil _ _ _ _ _⟩, ⟨Kd.R_nil _ _ _ _ _⟩, ⟨Below.refl _ _⟩⟩
      case round =>
       obtain ⟨j, rfl, HJ, HS, HW, HBj⟩ := hrel
       have hj := HJ.out
       by_cases hlt : j < l0.length
       ·obtain ⟨hx0, hx1, hx2, hy0, hy1, hy2⟩ := Tk.cell CT.out j hlt
        replace hx0 := (HBj.out.cell (World.block_lt_of_cell? w9 _ hx0)).trans hx0
        replace hx1 := (HBj.out.cell (World.block_lt_of_cell? w9 _ hx1)).trans hx1
        replace hx2 := (HBj.out.cell (World.block_lt_of_cell? w9 _ hx2)).trans hx2
        have h9 := (blk_cell (blk_below C9.out HBj.out) 0).trans rfl
        clear hy0 hy1 hy2
        have hsS : Tk.sel Tk.sendP s.ts (j + 1) = Tk.sel Tk.sendP s.ts j ++ (if Tk.sendP (s.ts.getD j z50) = true then [(j : Int)] else []) := rfl
        have hsW : Tk.sel Tk.waitP s.ts (j + 1) = Tk.sel Tk.waitP s.ts j ++ (if Tk.waitP (s.ts.getD j z50) = true then [(j : Int)] else []) := rfl
        have hlS := Tk.sel_len Tk.sendP s.ts j
        have hlW := Tk.sel_len Tk.waitP s.ts j
        have HLS := Aside0.mk hlS
        have HLW := Aside0.mk hlW
        have HSS := Aside0.mk hsS
        have HSW := Aside0.mk hsW
        clear hsS hsW hlS hlW
        generalize s.ts.getD j z50 = x at hx0 hx1 hx2 HSS HSW
        generalize Tk.sel Tk.sendP s.ts j = sj at HS HLS HSS
        generalize Tk.sel Tk.waitP s.ts j = wj at HW HLW HSW
        obtain ⟨A11, c11, e11⟩ := Kd.R_slice HS.out
        subst e11
        obtain ⟨A12, c12, e12⟩ := Kd.R_slice HW.out
        subst e12
        have q1 : decide ((j : Int) < (l0.length : Int)) = true := decide_eq_true (by omega)
        have q2 : (j < l0.length) = True := eq_true hlt
        by_cases cw : 0 < x.f1
        ·have q3 : decide (x.f1 > 0) = true := decide_eq_true cw
         have q3' : decide (0 < x.f1) = true := decide_eq_true cw
         have eS : Tk.sendP x = false := by unfold Tk.sendP Tk.waitP; rw [q3']; rfl
         have eW : Tk.waitP x = true := q3'
         rw [eS, if_neg (by decide), List.append_nil] at HSS
         rw [eW, if_pos rfl] at HSW
         go_wp2_with (first | ((with_reducible refine gate_dst (N := 14) rfl ?_); refine box_event ?hg (N := 14) ?hd (cs := #[.int .i64 0, .int .i64 0, .int .i64 0]) (t := 50) ?hr ?_; (case hd => rfl); (case hg => rfl); (case hr => first | (go_simp; done) | (go_simp; rfl)); intro g14 hg w10 hbox hb; have GE14 := Aside0.mk (show w9.heap.size ≤ g14 from by rw [hg]; exact HBj.out.size); have BK14 := Aside0.mk hbox; have HS2 := Aside0.mk (Kd.R_below (by (with_reducible repeat (first | apply Kd.R_alloc | apply Kd.R_drewN | apply Kd.R_drew)); exact HS.out) hb); have HW2 := Aside0.mk (Kd.R_below (by (with_reducible repeat (first | apply Kd.R_alloc | apply Kd.R_drewN | apply Kd.R_drew)); exact HW.out) hb); have HB2 := Aside0.mk (below_step (by repeat (first | (with_reducible first | exact HBj.out | apply below_alloc | apply pw_below_drewN | apply below_drew1) | exact HBj.out)) hb); have hz0 := (blk_cell hbox 0).trans rfl; have hz1 := (blk_cell hbox 1).trans rfl; have hz2 := (blk_cell hbox 2).trans rfl; have hf0 := blk_frozen hbox 0; have hf1 := blk_frozen hbox 1; have hf2 := blk_frozen hbox 2; clear hbox hb hg HS HW HBj) | ((with_reducible refine gate_builtin (b := .append) (xs := #[.tmp 65, .tmp 67]) rfl ?_); at_builtin; refine Kd.R_append (Kd.int .i64) (w0 := w9) w9.heap.size rfl (.tmp 65) (.tmp 67) 23 3 (.int .i64 0) 8 rfl Try.underlying23 info3 rfl (by decide) (by omega) (.slice A12 wj.length c12) wj (j : Int) [.int .i64 (j : Int)] (fun k_ => some k_ ≠ (Value.slice A11 sj.length c11).ownBlock) (fun _ => False) rfl (by first | (go_simp; done) | (go_simp; rfl)) rfl (fun _ h => h.elim) (fun k_ hk => Kd.fresh' (Kd.R_lt (Kd.R_far (p := ⟨g14, 2, none⟩) (Kd.R_far (p := ⟨g14, 1, none⟩) (Kd.R_far (p := ⟨g14, 0, none⟩) (Kd.R_types HS2.out BK14.out (by decide)) (fun _ hk => hk.2) (.int .i64 x.f0)) (fun _ hk => hk.2) (.int .i64 x.f1)) (fun _ hk => hk.2) (.int .i64 x.f2))) k_ hk) (Kd.R_mono (Kd.R_far (p := ⟨g14, 2, none⟩) (Kd.R_far (p := ⟨g14, 1, none⟩) (Kd.R_far (p := ⟨g14, 0, none⟩) (Kd.R_types HW2.out BK14.out (by decide)) (fun _ hk => hk.2) (.int .i64 x.f0)) (fun _ hk => hk.2) (.int .i64 x.f1)) (fun _ hk => hk.2) (.int .i64 x.f2)) (fun _ hk => hk.1)) (below_set (j := 2) (v := .int .i64 x.f2) (below_set (j := 1) (v := .int .i64 x.f1) (below_set (j := 0) (v := .int .i64 x.f0) HB2.out GE14.out) GE14.out) GE14.out) ((below_set (j := 2) (v := .int .i64 x.f2) (below_set (j := 1) (v := .int .i64 x.f1) (below_set (j := 0) (v := .int .i64 x.f0) HB2.out GE14.out) GE14.out) GE14.out)).size (by have := HLW.out; omega) ?_; intro v1 w1 ho hb hg hat; have HM3 := Aside0.mk (show Kd.R (Kd.int .i64) 3 w1 w9.heap.size (fun k_ => some k_ ≠ (Value.slice A11 sj.length c11).ownBlock) v1 (wj ++ [(j : Int)]) from ho); have HB3 := Aside0.mk hb; have HO3 := Aside0.mk (Kd.R_mono (Kd.R_after (ok := fun _ => True) (v := (.slice A12 wj.length c12)) (v1 := v1) (Kd.R_mono (Kd.R_far (p := ⟨g14, 2, none⟩) (Kd.R_far (p := ⟨g14, 1, none⟩) (Kd.R_far (p := ⟨g14, 0, none⟩) (Kd.R_types HS2.out BK14.out (by decide)) (fun _ hk => hk.2) (.int .i64 x.f0)) (fun _ hk => hk.2) (.int .i64 x.f1)) (fun _ hk => hk.2) (.int .i64 x.f2)) (fun _ hk => ⟨trivial, hk.1⟩)) hg hat) (fun _ hk => hk.2)); clear ho hb hg hat))
         go_roundg (l0.length - (j + 1))
         case measure => omega
         case rel => exact ⟨j + 1, by go_num, ⟨⟨by omega, by omega⟩⟩, ⟨by rw [HSS.out]; exact HO3.out⟩, ⟨by rw [HSW.out]; exact HM3.out⟩, ⟨(by repeat (first | (with_reducible first | exact HB3.out | apply below_alloc | apply pw_below_drewN | apply below_drew1) | exact HB3.out))⟩⟩
        ·have q3 : decide (x.f1 > 0) = false := decide_eq_false cw
         have q3' : decide (0 < x.f1) = false := decide_eq_false cw
         have eW : Tk.waitP x = false := q3'
         rw [eW, if_neg (by decide), List.append_nil] at HSW
         by_cases cs : 0 < x.f0
         ·have q4 : decide (x.f0 > 0) = true := decide_eq_true cs
          have q4' : decide (0 < x.f0) = true := decide_eq_true cs
          have eS : Tk.sendP x = true := by unfold Tk.sendP Tk.waitP Tk.busyP; rw [q3', q4']; rfl
          rw [eS, if_pos rfl] at HSS
          go_wp2_with (first | ((with_reducible refine gate_dst (N := 14) rfl ?_); refine box_event ?hg (N := 14) ?hd (cs := #[.int .i64 0, .int .i64 0, .int .i64 0]) (t := 50) ?hr ?_; (case hd => rfl); (case hg => rfl); (case hr => first | (go_simp; done) | (go_simp; rfl)); intro g14 hg w10 hbox hb; have GE14 := Aside0.mk (show w9.heap.size ≤ g14 from by rw [hg]; exact HBj.out.size); have BK14 := Aside0.mk hbox; have HS2 := Aside0.mk (Kd.R_below (by (with_reducible repeat (first | apply Kd.R_alloc | apply Kd.R_drewN | apply Kd.R_drew)); exact HS.out) hb); have HW2 := Aside0.mk (Kd.R_below (by (with_reducible repeat (first | apply Kd.R_alloc | apply Kd.R_drewN | apply Kd.R_drew)); exact HW.out) hb); have HB2 := Aside0.mk (below_step (by repeat (first | (with_reducible first | exact HBj.out | apply below_alloc | apply pw_below_drewN | apply below_drew1) | exact HBj.out)) hb); have hz0 := (blk_cell hbox 0).trans rfl; have hz1 := (blk_cell hbox 1).trans rfl; have hz2 := (blk_cell hbox 2).trans rfl; have hf0 := blk_frozen hbox 0; have hf1 := blk_frozen hbox 1; have hf2 := blk_frozen hbox 2; clear hbox hb hg HS HW HBj) | ((with_reducible refine gate_builtin (b := .append) (xs := #[.tmp 72, .tmp 74]) rfl ?_); at_builtin; refine Kd.R_append (Kd.int .i64) (w0 := w9) w9.heap.size rfl (.tmp 72) (.tmp 74) 23 3 (.int .i64 0) 8 rfl Try.underlying23 info3 rfl (by decide) (by omega) (.slice A11 sj.length c11) sj (j : Int) [.int .i64 (j : Int)] (fun k_ => some k_ ≠ (Value.slice A12 wj.length c12).ownBlock) (fun _ => False) rfl (by first | (go_simp; done) | (go_simp; rfl)) rfl (fun _ h => h.elim) (fun k_ hk => Kd.fresh' (Kd.R_lt (Kd.R_far (p := ⟨g14, 2, none⟩) (Kd.R_far (p := ⟨g14, 1, none⟩) (Kd.R_far (p := ⟨g14, 0, none⟩) (Kd.R_types HW2.out BK14.out (by decide)) (fun _ hk => hk.2) (.int .i64 x.f0)) (fun _ hk => hk.2) (.int .i64 x.f1)) (fun _ hk => hk.2) (.int .i64 x.f2))) k_ hk) (Kd.R_mono (Kd.R_far (p := ⟨g14, 2, none⟩) (Kd.R_far (p := ⟨g14, 1, none⟩) (Kd.R_far (p := ⟨g14, 0, none⟩) (Kd.R_types HS2.out BK14.out (by decide)) (fun _ hk => hk.2) (.int .i64 x.f0)) (fun _ hk => hk.2) (.int .i64 x.f1)) (fun _ hk => hk.2) (.int .i64 x.f2)) (fun _ hk => hk.1)) (below_set (j := 2) (v := .int .i64 x.f2) (below_set (j := 1) (v := .int .i64 x.f1) (below_set (j := 0) (v := .int .i64 x.f0) HB2.out GE14.out) GE14.out) GE14.out) ((below_set (j := 2) (v := .int .i64 x.f2) (below_set (j := 1) (v := .int .i64 x.f1) (below_set (j := 0) (v := .int .i64 x.f0) HB2.out GE14.out) GE14.out) GE14.out)).size (by have := HLS.out; omega) ?_; intro v1 w1 ho hb hg hat; have HM3 := Aside0.mk (show Kd.R (Kd.int .i64) 3 w1 w9.heap.size (fun k_ => some k_ ≠ (Value.slice A12 wj.length c12).ownBlock) v1 (sj ++ [(j : Int)]) from ho); have HB3 := Aside0.mk hb; have HO3 := Aside0.mk (Kd.R_mono (Kd.R_after (ok := fun _ => True) (v := (.slice A11 sj.length c11)) (v1 := v1) (Kd.R_mono (Kd.R_far (p := ⟨g14, 2, none⟩) (Kd.R_far (p := ⟨g14, 1, none⟩) (Kd.R_far (p := ⟨g14, 0, none⟩) (Kd.R_types HW2.out BK14.out (by decide)) (fun _ hk => hk.2) (.int .i64 x.f0)) (fun _ hk => hk.2) (.int .i64 x.f1)) (fun _ hk => hk.2) (.int .i64 x.f2)) (fun _ hk => ⟨trivial, hk.1⟩)) hg hat) (fun _ hk => hk.2)); clear ho hb hg hat))
          go_roundg (l0.length - (j + 1))
          case measure => omega
          case rel => exact ⟨j + 1, by go_num, ⟨⟨by omega, by omega⟩⟩, ⟨by rw [HSS.out]; exact HM3.out⟩, ⟨by rw [HSW.out]; exact HO3.out⟩, ⟨(by repeat (first | (with_reducible first | exact HB3.out | apply below_alloc | apply pw_below_drewN | apply below_drew1) | exact HB3.out))⟩⟩
         ·have q4 : decide (x.f0 > 0) = false := decide_eq_false cs
          have q4' : decide (0 < x.f0) = false := decide_eq_false cs
          have eS : Tk.sendP x = false := by unfold Tk.sendP Tk.waitP Tk.busyP; rw [q3', q4']; rfl
          rw [eS, if_neg (by decide), List.append_nil] at HSS
          go_wp2_with (first | ((with_reducible refine gate_dst (N := 14) rfl ?_); refine box_event ?hg (N := 14) ?hd (cs := #[.int .i64 0, .int .i64 0, .int .i64 0]) (t := 50) ?hr ?_; (case hd => rfl); (case hg => rfl); (case hr => first | (go_simp; done) | (go_simp; rfl)); intro g14 hg w10 hbox hb; have GE14 := Aside0.mk (show w9.heap.size ≤ g14 from by rw [hg]; exact HBj.out.size); have BK14 := Aside0.mk hbox; have HS2 := Aside0.mk (Kd.R_below (by (with_reducible repeat (first | apply Kd.R_alloc | apply Kd.R_drewN | apply Kd.R_drew)); exact HS.out) hb); have HW2 := Aside0.mk (Kd.R_below (by (with_reducible repeat (first | apply Kd.R_alloc | apply Kd.R_drewN | apply Kd.R_drew)); exact HW.out) hb); have HB2 := Aside0.mk (below_step (by repeat (first | (with_reducible first | exact HBj.out | apply below_alloc | apply pw_below_drewN | apply below_drew1) | exact HBj.out)) hb); have hz0 := (blk_cell hbox 0).trans rfl; have hz1 := (blk_cell hbox 1).trans rfl; have hz2 := (blk_cell hbox 2).trans rfl; have hf0 := blk_frozen hbox 0; have hf1 := blk_frozen hbox 1; have hf2 := blk_frozen hbox 2; clear hbox hb hg HS HW HBj))
          go_roundg (l0.length - (j + 1))
          case measure => omega
          case rel => exact ⟨j + 1, by go_num, ⟨⟨by omega, by omega⟩⟩, ⟨by rw [HSS.out]; exact Kd.R_mono (Kd.R_far (p := ⟨g14, 2, none⟩) (Kd.R_far (p := ⟨g14, 1, none⟩) (Kd.R_far (p := ⟨g14, 0, none⟩) (Kd.R_types HS2.out BK14.out (by decide)) (fun _ hk => hk.2) (.int .i64 x.f0)) (fun _ hk => hk.2) (.int .i64 x.f1)) (fun _ hk => hk.2) (.int .i64 x.f2)) (fun _ hk => hk.1)⟩, ⟨by rw [HSW.out]; exact Kd.R_mono (Kd.R_far (p := ⟨g14, 2, none⟩) (Kd.R_far (p := ⟨g14, 1, none⟩) (Kd.R_far (p := ⟨g14, 0, none⟩) (Kd.R_types HW2.out BK14.out (by decide)) (fun _ hk => hk.2) (.int .i64 x.f0)) (fun _ hk => hk.2) (.int .i64 x.f1)) (fun _ hk => hk.2) (.int .i64 x.f2)) (fun _ hk => hk.1)⟩, ⟨(below_set (j := 2) (v := .int .i64 x.f2) (below_set (j := 1) (v := .int .i64 x.f1) (below_set (j := 0) (v := .int .i64 x.f0) HB2.out GE14.out) GE14.out) GE14.out)⟩⟩
       ·have hje : j = l0.length := by omega
        subst hje
        rw [← HN.out] at HS HW
        have D6 := Aside0.mk (blk_below C6.out HBj.out)
        have D8 := Aside0.mk (blk_below C8.out HBj.out)
        have D9 := Aside0.mk (blk_below C9.out HBj.out)
        have DG := Aside0.mk (blk_below CG.out HBj.out)
        have DO := Aside0.mk (Kd.R_below (Kd.R_mono (Kd.R_bound CO.out) (fun k_ hk_ => (hk_.2.2.1 : k_ < w9.heap.size))) HBj.out)
        have DT := Aside0.mk (Kd.R_below CT.out HBj.out)
        have DB := Aside0.mk (below_step CB.out HBj.out)
        have DS := Aside0.mk (Kd.R_mono (Kd.R_bound HS.out) (fun k_ hk_ => (hk_.2.1 : w9.heap.size ≤ k_)))
        have DW := Aside0.mk (Kd.R_mono (Kd.R_bound HW.out) (fun k_ hk_ => (hk_.2.1 : w9.heap.size ≤ k_)))
        have HW9 := Aside0.mk (below_size CB.out)
        clear C6 C8 C9 CG CO CT CB HS HW HBj
        have NE6g := Aside0.mk (blk_ne D6.out DG.out (by decide))
        have NE8g := Aside0.mk (blk_ne D8.out DG.out (by decide))
        have NE9g := Aside0.mk (blk_ne D9.out DG.out (by decide))
        have hmid := Tk.mid_def s _ rfl
        have hslot := Tk.slot_def s _ rfl
        have hmin := Tk.mid_in HI.out
        have hsv := Tk.slot_inv HI.out (by omega)
        have hrs := Tk.run_slot hbz hls HI.out
        have hnS := fun k hk => Tk.sel_nat (p := Tk.sendP) (ts := s.ts) k hk
        have hnW := fun k hk => Tk.sel_nat (p := Tk.waitP) (ts := s.ts) k hk
        have hlS := Tk.sel_len Tk.sendP s.ts s.ts.length
        have hlW := Tk.sel_len Tk.waitP s.ts s.ts.length
        have HMID := Aside0.mk hmid
        have HSLOT := Aside0.mk hslot
        have HMIN := Aside0.mk hmin
        have HSV := Aside0.mk hsv
        have HRS := Aside0.mk hrs
        have HNS := Aside0.mk hnS
        have HNW := Aside0.mk hnW
        clear hmid hslot hmin hsv hrs hnS hnW
        generalize Tk.sel Tk.sendP s.ts s.ts.length = S at DS HMID HNS hlS
        generalize Tk.sel Tk.waitP s.ts s.ts.length = W at DW HSLOT HNW hlW
        obtain ⟨A11, c11, e11⟩ := Kd.R_slice DS.out
        subst e11
        obtain ⟨A12, c12, e12⟩ := Kd.R_slice DW.out
        subst e12
        obtain ⟨Ao, co, eo⟩ := Kd.R_slice DO.out
        subst eo
        rw [HN.out] at hlS hlW
        have q1 : decide ((l0.length : Int) < (l0.length : Int)) = false := decide_eq_false (by omega)
        have q2 : (l0.length < l0.length) = False := eq_false (by omega)
        by_cases cS1 : S.length = 1
        ·rw [if_pos cS1] at HMID
         obtain ⟨k, rfl⟩ : ∃ k, S = [k] := List.length_eq_one_iff.1 cS1
         obtain ⟨i, rfl, hil⟩ := HNS.out k (by simp)
         have hm2 : Tk.mid s = ⟨Tk.sent1 s.ts (i : Int), s.order ++ [(i : Int)], s.hits, s.slots + 1, s.draws⟩ := HMID.out
         clear HMID
         have HMID := Aside0.mk hm2
         clear hm2 hlS cS1
         obtain ⟨gs, cs', es, _, _, _, _⟩ := Kd.R_form DS.out (by simp)
         injection es with es1 es2 es3
         subst es1
         clear es2 es3
         have hs0 : wr.drew.cell? ⟨gs, 0, none⟩ = some (.int .i64 (i : Int)) := (Kd.R_celln 0 DS.out 0 (by omega) (by simp)).1
         have h9 : wr.drew.cell? ⟨g9, 0, none⟩ = some (.slice (some ⟨g, 0, none⟩) l0.length ct) := (blk_cell D9.out 0).trans rfl
         have hil0 : i < l0.length := by rw [← HN.out]; exact hil
         have q7 : (i < l0.length) = True := eq_true hil0
         have hbd := HI.out.tin i hil
         generalize hxx : s.ts.getD i z50 = x at hbd
         have HXX := Aside0.mk hxx
         clear hxx
         have e1 : wrap64 (x.f0 - 1) = x.f0 - 1 := by unfold wrap64; omega
         have e2 : IntKind.i64.wrap (x.f0 - 1) = x.f0 - 1 := by rw [IntKind.wrap_i64]; omega
         clear hbd
         go_wp2_with fail
         have b6_ := Aside0.mk (blk_drew D6.out)
         have b8_ := Aside0.mk (blk_drew D8.out)
         have b9_ := Aside0.mk (blk_drew D9.out)
         have bg_ := Aside0.mk (blk_drew DG.out)
         have ro_ := Aside0.mk (Kd.R_drew DO.out)
         have rt_ := Aside0.mk (Kd.R_drew DT.out)
         have rs_ := Aside0.mk (Kd.R_drew DS.out)
         have rw_ := Aside0.mk (Kd.R_drew DW.out)
         have hb_ := Aside0.mk (below_drew1 DB.out)
         clear D6 D8 D9 DG DO DT DS DW DB
         have D6 := b6_
         have D8 := b8_
         have D9 := b9_
         have DG := bg_
         have DO := ro_
         have DT := rt_
         have DS := rs_
         have DW := rw_
         have DB := hb_
         clear b6_ b8_ b9_ bg_ ro_ rt_ rs_ rw_ hb_
         refine start_ (n := 6) (S := fun w' => w'.cell? ⟨g9, 0, none⟩ = some (.slice (some ⟨g, 0, none⟩) l0.length ct) ∧ w'.cell? ⟨gs, 0, none⟩ = some (.int .i64 (i : Int))) (ds := []) #[false, false, false, false, false, false] (by kernel_rfl) rfl rfl ⟨h9, hs0⟩ (fun hHeld => ?_)
         generalize wr.drew = w10 at D6 D8 D9 DG DO DT DS DW DB h9 hs0 hHeld ⊢
         refine pure_ (i := 1) (N := some 81) (v := ?_) (a' := ?_) #[false, true, false, false, false, false] rfl rfl (by kernel_rfl) (fun _ _ _ h => h) (Or.inl ⟨by rfl, ?_⟩) ?_ ?_
         rotate_left
         ·intro w'
          go_simp
          with_reducible rfl
         rotate_left
         ·simp only [Act.put, List.setIfInBounds_toArray, List.set_cons_zero, List.set_cons_succ, i64_w, i32_w]
          rfl
         refine pure_ (i := 2) (N := some 82) (v := ?_) (a' := ?_) #[false, true, true, false, false, false] rfl rfl (by kernel_rfl) (fun _ _ _ h => h) (Or.inl ⟨by rfl, ?_⟩) ?_ ?_
         rotate_left
         ·intro w'
          go_simp
          with_reducible rfl
         rotate_left
         ·simp only [Act.put, List.setIfInBounds_toArray, List.set_cons_zero, List.set_cons_succ, i64_w, i32_w]
          rfl
         refine take_ (i := 0) (N := some 80) (v := ?_) (a' := ?_) #[true, true, true, false, false, false] rfl rfl (by kernel_rfl) (fun _ _ _ h => h) (Or.inl ⟨by rfl, ?_⟩) hHeld ?_ ?_
         rotate_left
         ·rintro w' ⟨s0, s1⟩
          go_simp
          with_reducible rfl
         rotate_left
         ·simp only [Act.put, List.setIfInBounds_toArray, List.set_cons_zero, List.set_cons_succ, i64_w, i32_w]
          rfl
         refine take_ (i := 3) (N := some 83) (v := ?_) (a' := ?_) #[true, true, true, true, false, false] rfl rfl (by kernel_rfl) (fun _ _ _ h => h) (Or.inl ⟨by rfl, ?_⟩) hHeld ?_ ?_
         rotate_left
         ·rintro w' ⟨s0, s1⟩
          go_simp
          with_reducible rfl
         rotate_left
         ·simp only [Act.put, List.setIfInBounds_toArray, List.set_cons_zero, List.set_cons_succ, i64_w, i32_w]
          rfl
         refine pure_ (i := 4) (N := some 84) (v := ?_) (a' := ?_) #[true, true, true, true, true, false] rfl rfl (by kernel_rfl) (fun _ _ _ h => h) (Or.inl ⟨by rfl, ?_⟩) ?_ ?_
         rotate_left
         ·intro w'
          go_simp
          with_reducible rfl
         rotate_left
         ·simp only [Act.put, List.setIfInBounds_toArray, List.set_cons_zero, List.set_cons_succ, i64_w, i32_w]
          rfl
         refine pure_ (i := 5) (N := some 15) (v := ?_) (a' := ?_) #[true, true, true, true, true, true] rfl rfl (by kernel_rfl) (fun _ _ _ h => h) (Or.inl ⟨by rfl, ?_⟩) ?_ ?_
         rotate_left
         ·intro w'
          go_simp
          with_reducible rfl
         rotate_left
         ·simp only [Act.put, List.setIfInBounds_toArray, List.set_cons_zero, List.set_cons_succ, i64_w, i32_w]
          rfl
         refine done_ (by kernel_rfl) ?_
         clear hHeld h9
         obtain ⟨hx0, hx1, hx2, hy0, hy1, hy2⟩ := Tk.cell DT.out i hil0
         rw [HXX.out] at hx0
         clear hx1 hy1
         go_wp2_with fail
         have C6 := Aside0.mk (blk_drew (blk_far (blk_far D6.out (p := ⟨g, i * 3, none⟩) NE6g.out (.int .i64 (x.f0 - 1))) (p := ⟨g, i * 3 + 2, none⟩) NE6g.out (.int .i64 0)))
         have C8 := Aside0.mk (blk_drew (blk_far (blk_far D8.out (p := ⟨g, i * 3, none⟩) NE8g.out (.int .i64 (x.f0 - 1))) (p := ⟨g, i * 3 + 2, none⟩) NE8g.out (.int .i64 0)))
         have C9 := Aside0.mk (blk_drew (blk_far (blk_far D9.out (p := ⟨g, i * 3, none⟩) NE9g.out (.int .i64 (x.f0 - 1))) (p := ⟨g, i * 3 + 2, none⟩) NE9g.out (.int .i64 0)))
         have CG1 := Aside0.mk (blk_set DG.out (i * 3) (.int .i64 (x.f0 - 1)))
         have CG := Aside0.mk (blk_drew (blk_set CG1.out (i * 3 + 2) (.int .i64 0)))
         have CO := Aside0.mk (Kd.R_drew (Kd.R_set (Kd.R_set DO.out DG.out (by decide) (i * 3) (.int .i64 (x.f0 - 1))) CG1.out (by decide) (i * 3 + 2) (.int .i64 0)))
         have CS := Aside0.mk (Kd.R_drew (Kd.R_set (Kd.R_set DS.out DG.out (by decide) (i * 3) (.int .i64 (x.f0 - 1))) CG1.out (by decide) (i * 3 + 2) (.int .i64 0)))
         have CW := Aside0.mk (Kd.R_drew (Kd.R_set (Kd.R_set DW.out DG.out (by decide) (i * 3) (.int .i64 (x.f0 - 1))) CG1.out (by decide) (i * 3 + 2) (.int .i64 0)))
         have ct1 := ((Tk.put DT.out i hil0).1 (x.f0 - 1)).1
         have ct2 := ((Tk.put ct1 i hil0).2.2 0).1
         rw [HXX.out] at ct2
         rw [← Tk.sent1_def s.ts i hil x HXX.out] at ct2
         have CT := Aside0.mk (Kd.R_drew ct2)
         have CB := Aside0.mk (below_drew1 (below_set (j := i * 3 + 2) (v := .int .i64 0) (below_set (j := i * 3) (v := .int .i64 (x.f0 - 1)) DB.out GEg.out) GEg.out))
         clear ct1 ct2 CG1 D6 D8 D9 DG DO DT DS DW DB hs0 hx0 hx2 hy0 hy2 e1 e2
         have hs0 := (Kd.R_celln 0 CS.out 0 (by omega) (by simp)).1
         have h80 := (blk_cell C8.out 0).trans rfl
         refine start_ (n := 9) (S := fun w' => w'.cell? ⟨g8, 0, none⟩ = some (.slice Ao s.order.length co) ∧ w'.cell? ⟨gs, 0, none⟩ = some (.int .i64 (i : Int))) (ds := [6, 8]) #[false, false, false, false, false, false, false, false, false] (by kernel_rfl) rfl rfl ⟨h80, hs0⟩ (fun hHeld => ?_); refine with_tabW impl_RunTalk.tab21 impl_RunTalk.bits21 (fun HT_ HW_ => ?_)
         generalize World.drew _ = w12 at C6 C8 C9 CG CO CS CW CT CB h80 hs0 hHeld ⊢
         refine pure_ (i := 0) (N := some 95) (v := ?_) (a' := ?_) #[true, false, false, false, false, false, false, false, false] rfl rfl (any_of HT_.out (by kernel_rfl)) (fun _ _ _ h => h) (Or.inl ⟨by rfl, ?_⟩) ?_ ?_
         rotate_left
         ·intro w'
          go_simp
          with_reducible rfl
         rotate_left
         ·simp only [Act.put, List.setIfInBounds_toArray, List.set_cons_zero, List.set_cons_succ, i64_w, i32_w]
          rfl
         refine pure_ (i := 2) (N := some 97) (v := ?_) (a' := ?_) #[true, false, true, false, false, false, false, false, false] rfl rfl (any_of HT_.out (by kernel_rfl)) (fun _ _ _ h => h) (Or.inl ⟨by rfl, ?_⟩) ?_ ?_
         rotate_left
         ·intro w'
          go_simp
          with_reducible rfl
         rotate_left
         ·simp only [Act.put, List.setIfInBounds_toArray, List.set_cons_zero, List.set_cons_succ, i64_w, i32_w]
          rfl
         refine pure_ (i := 3) (N := some 98) (v := ?_) (a' := ?_) #[true, false, true, true, false, false, false, false, false] rfl rfl (any_of HT_.out (by kernel_rfl)) (fun _ _ _ h => h) (Or.inl ⟨by rfl, ?_⟩) ?_ ?_
         rotate_left
         ·intro w'
          go_simp
          with_reducible rfl
         rotate_left
         ·simp only [Act.put, List.setIfInBounds_toArray, List.set_cons_zero, List.set_cons_succ, i64_w, i32_w]
          rfl
         refine take_ (i := 1) (N := some 96) (v := ?_) (a' := ?_) #[true, true, true, true, false, false, false, false, false] rfl rfl (take_ofW HT_.out HW_.out (by kernel_rfl)) (fun _ _ _ h => h) (Or.inl ⟨by rfl, ?_⟩) hHeld ?_ ?_
         rotate_left
         ·rintro w' ⟨s0, s1⟩
          go_simp
          with_reducible rfl
         rotate_left
         ·simp only [Act.put, List.setIfInBounds_toArray, List.set_cons_zero, List.set_cons_succ, i64_w, i32_w]
          rfl
         refine take_ (i := 4) (N := some 99) (v := ?_) (a' := ?_) #[true, true, true, true, true, false, false, false, false] rfl rfl (take_ofW HT_.out HW_.out (by kernel_rfl)) (fun _ _ _ h => h) (Or.inl ⟨by rfl, ?_⟩) hHeld ?_ ?_
         rotate_left
         ·rintro w' ⟨s0, s1⟩
          go_simp
          with_reducible rfl
         rotate_left
         ·simp only [Act.put, List.setIfInBounds_toArray, List.set_cons_zero, List.set_cons_succ, i64_w, i32_w]
          rfl
         refine one_ (i := 5) (N := some 100) #[true, true, true, true, true, true, false, false, false] rfl rfl (one_of HT_.out (by kernel_rfl)) (by decide) (fun K hK => ?_)
         refine value_ (w1 := ?_) (v := ?_) (by rfl) rfl ?_ ?_
         rotate_left 2
         ·go_simp
          constructor
          ·rfl
          ·rfl
         refine hK.out _ _ ⟨(World.cell?_alloc_lt _ _ _ (World.block_lt_of_cell? _ _ (hHeld.1))).trans (hHeld.1), (World.cell?_alloc_lt _ _ _ (World.block_lt_of_cell? _ _ (hHeld.2))).trans (hHeld.2)⟩ (fun hHeld => ?_)
         clear hK K
         refine norm_ (a' := ?_) ?_ ?_
         rotate_left
         ·show Act.put _ (some 100) _ = _
          simp only [Act.put, List.setIfInBounds_toArray, List.set_cons_zero, List.set_cons_succ, i64_w, i32_w]
          rfl
         refine last_ (i := 6) (N := some 101) #[true, true, true, true, true, true, true, false, false] rfl rfl (one_of HT_.out (by kernel_rfl)) (by decide) (fun K hK => ?_)
         refine Kd.R_append_step (Kd.int .i64) (w0 := w) w.heap.size (by rfl) (.tmp 96) (.tmp 100) 23 3 (.int .i64 0) 8 rfl Try.underlying23 info3 rfl (by decide) (by omega) (.slice Ao s.order.length co) s.order (i : Int) [.int .i64 (i : Int)] (fun _ => True) (fun _ => False) rfl (by first | (go_simp; done) | (go_simp; rfl)) rfl (fun _ hk => hk.elim) (fun _ _ => trivial) (Kd.R_mono CO.out (fun _ _ => trivial)) CB.out (below_size CB.out) (by have := HI.out.od; have := HI.out.sl; omega) ?_
         intro v1 w13 ho hb hg hat
         obtain ⟨Ao1, co1, eo1⟩ := Kd.R_slice ho
         rw [show (s.order ++ [(i : Int)]).length = s.order.length + 1 by simp] at eo1
         subst eo1
         have D6 := Aside0.mk (blk_grown C6.out hg (Kd.R_ne CO.out C6.out (by decide)))
         have D8 := Aside0.mk (blk_grown C8.out hg (Kd.R_ne CO.out C8.out (by decide)))
         have D9 := Aside0.mk (blk_grown C9.out hg (Kd.R_ne CO.out C9.out (by decide)))
         have DG := Aside0.mk (blk_grown CG.out hg (Kd.R_ne CO.out CG.out (by decide)))
         have DT := Aside0.mk (Kd.R_over CT.out CO.out (by decide) hg)
         have DW := Aside0.mk (Kd.R_grown CW.out hg (fun k hk e => by have h_ : k < w9.heap.size := CO.out.1 k e.symm; exact Nat.lt_irrefl _ (Nat.lt_of_lt_of_le h_ hk)))
         have DO := Aside0.mk ho
         have DB := Aside0.mk hb
         have k80 := (blk_cell D8.out 0).trans rfl
         have kf80 := blk_frozen D8.out 0
         clear C6 C8 C9 CG CO CS CW CT CB hg hat ho hb
         refine hK.out _ _ ?_
         clear hK K
         refine norm_ (a' := ?_) ?_ ?_
         rotate_left
         ·show Act.put _ (some 101) _ = _
          simp only [Act.put, List.setIfInBounds_toArray, List.set_cons_zero, List.set_cons_succ, i64_w, i32_w]
          rfl
         refine pure_ (i := 7) (N := some 102) (v := ?_) (a' := ?_) #[true, true, true, true, true, true, true, true, false] rfl rfl (any_of HT_.out (by kernel_rfl)) (fun _ _ _ h => h) (Or.inl ⟨by rfl, ?_⟩) ?_ ?_
         rotate_left
         ·intro w'
          go_simp
          with_reducible rfl
         rotate_left
         ·simp only [Act.put, List.setIfInBounds_toArray, List.set_cons_zero, List.set_cons_succ, i64_w, i32_w]
          rfl
         refine last_ (i := 8) (N := none) #[true, true, true, true, true, true, true, true, true] rfl rfl (one_of HT_.out (by kernel_rfl)) (by decide) (fun K hK => ?_)
         refine skip_ (w1 := ?_) (by rfl) rfl ?_ ?_
         rotate_left
         ·go_simp
          rfl
         refine hK.out _ _ ?_
         clear hK K
         refine done_ (done_of HT_.out (by kernel_rfl)) ?_
         go_wp2_with fail
         have F6 := Aside0.mk (blk_far D6.out (p := ⟨g8, 0, none⟩) NE68.out (.slice Ao1 (s.order.length + 1) co1))
         have F8 := Aside0.mk (blk_put D8.out 0 (.slice Ao1 (s.order.length + 1) co1) (cs' := #[.slice Ao1 (s.order.length + 1) co1, .int .i64 s.hits, .int .i64 (s.slots + 1), .bool false]) rfl)
         have F9 := Aside0.mk (blk_far D9.out (p := ⟨g8, 0, none⟩) NE98.out (.slice Ao1 (s.order.length + 1) co1))
         have FG := Aside0.mk (blk_far DG.out (p := ⟨g8, 0, none⟩) NEg8.out (.slice Ao1 (s.order.length + 1) co1))
         have FO := Aside0.mk (Kd.R_set DO.out D8.out (by decide) 0 (.slice Ao1 (s.order.length + 1) co1))
         have FT := Aside0.mk (Kd.R_set DT.out D8.out (by decide) 0 (.slice Ao1 (s.order.length + 1) co1))
         have FW := Aside0.mk (Kd.R_set DW.out D8.out (by decide) 0 (.slice Ao1 (s.order.length + 1) co1))
         have FB := Aside0.mk (below_set (j := 0) (v := .slice Ao1 (s.order.length + 1) co1) DB.out GE8.out)
         clear D6 D8 D9 DG DO DT DW DB k80 kf80
         generalize World.setCell _ ⟨g8, 0, none⟩ (.slice Ao1 (s.order.length + 1) co1) = w14 at F6 F8 F9 FG FO FT FW FB ⊢
         have D6 := F6
         have D8 := F8
         have D9 := F9
         have DG := FG
         have DO := FO
         have DT := FT
         have DW := FW
         have DB := FB
         have DS := FB
         clear F6 F8 F9 FG FO FT FW FB
         have HIT := Aside0.mk (show Tk.InT (20 * s.slots + 6) (Tk.sent1 s.ts (i : Int)) ∧ (Tk.sent1 s.ts (i : Int)).length = s.ts.length from by have h := HMIN.out; rw [HMID.out] at h; exact ⟨h.1, h.2.1⟩)
         go_loopg [148] W.length (fun kq v148 wr => ∃ j : Nat, v148 = .int .i64 (j : Int) ∧ Aside0 (j ≤ W.length ∧ W.length - j ≤ kq) ∧ Aside0 (wr.heap[g6]? = some (.cells #[.slice none 0 0, .int .i64 0, .int .i64 0, .bool false] 28 (0, 0))) ∧ Aside0 (wr.heap[g8]? = some (.cells #[(.slice Ao1 (s.order.length + 1) co1), .int .i64 (s.hits), .int .i64 (s.slots + 1), .bool false] 28 (0, 0))) ∧ Aside0 (wr.heap[g9]? = some (.cells #[.slice (some ⟨g, 0, none⟩) l0.length ct] 47 (0, 0))) ∧ Aside0 (∃ cs, wr.heap[g]? = some (.cells cs Tk.te (0, 0))) ∧ Aside0 (Kd.R (Kd.int .i64) 3 wr w.heap.size (fun _ => True) (.slice Ao1 (s.order.length + 1) co1) (s.order ++ [(i : Int)])) ∧ Aside0 (Kd.R Tk.K Tk.te wr w.heap.size (fun _ => True) (.slice (some ⟨g, 0, none⟩) l0.length ct) ((W.take j).foldl Tk.dec1 (Tk.sent1 s.ts (i : Int)))) ∧ Aside0 (Kd.R (Kd.int .i64) 3 wr w9.heap.size (fun k_ => w9.heap.size ≤ k_) (.slice A12 W.length c12) W) ∧ Aside0 (Below w.heap.size w wr))
         case atStart => exact ⟨0, rfl, ⟨⟨Nat.zero_le _, by omega⟩⟩, ⟨(by (with_reducible repeat (first | refine blk_drewN ?_ _ | refine blk_drew ?_ | refine blk_alloc ?_ _)); exact D6.out)⟩, ⟨(by (with_reducible repeat (first | refine blk_drewN ?_ _ | refine blk_drew ?_ | refine blk_alloc ?_ _)); exact D8.out)⟩, ⟨(by (with_reducible repeat (first | refine blk_drewN ?_ _ | refine blk_drew ?_ | refine blk_alloc ?_ _)); exact D9.out)⟩, ⟨⟨_, (by (with_reducible repeat (first | refine blk_drewN ?_ _ | refine blk_drew ?_ | refine blk_alloc ?_ _)); exact DG.out)⟩⟩, ⟨Kd.R_mono (by (with_reducible repeat (first | apply Kd.R_alloc | apply Kd.R_drewN | apply Kd.R_drew)); exact DO.out) (fun _ _ => trivial)⟩, ⟨(by (with_reducible repeat (first | apply Kd.R_alloc | apply Kd.R_drewN | apply Kd.R_drew)); exact DT.out)⟩, ⟨(by (with_reducible repeat (first | apply Kd.R_alloc | apply Kd.R_drewN | apply Kd.R_drew)); exact DW.out)⟩, ⟨(by repeat (first | (with_reducible first | exact DB.out | apply below_alloc | apply pw_below_drewN | apply below_drew1) | exact DB.out))⟩⟩
         case round =>
          clear D6 D8 D9 DG DO DT DW DB DS
          obtain ⟨j, rfl, HJ, D6, D8, D9, DGe, DO, DT, DW, DB⟩ := hrel
          obtain ⟨cg, hcg⟩ := DGe.out
          have DG := Aside0.mk hcg
          clear hcg
          have hj := HJ.out
          by_cases hlt : j < W.length
          ·obtain ⟨iw, hi, hilw⟩ := HNW.out (rd W (j : Int)) (by rw [show rd W (j : Int) = W[j] by simp [rd, List.getD_eq_getElem?_getD, hlt]]; exact List.getElem_mem hlt)
           have htk : W.take (j + 1) = W.take j ++ [(iw : Int)] := by rw [List.take_succ_eq_append_getElem hlt, ← hi]; simp [rd, List.getD_eq_getElem?_getD, hlt]
           obtain ⟨adW, eW, hxW⟩ := Kd.at_int (Kd.R_reads' DW.out).2.2 (j : Int) (by omega) (by omega)
           cases eW
           rw [hi, Int.toNat_natCast] at hxW
           obtain ⟨k1, k2⟩ := Tk.decs_in (W.take j) HIT.out.1 (by omega) (fun k hk => by rw [HIT.out.2]; exact HNW.out k (List.mem_of_mem_take hk))
           rw [List.length_take] at k1
           rw [HIT.out.2] at k2
           have hil0w : iw < l0.length := by rw [← HN.out]; exact hilw
           have hb1 := k1 iw (by rw [k2]; exact hilw)
           obtain ⟨hx0, hx1, hx2, hy0, hy1, hy2⟩ := Tk.cell DT.out iw hil0w
           obtain ⟨p0, p1, p2⟩ := Tk.put DT.out iw hil0w
           have P1 := Aside0.mk p1
           have HTK := Aside0.mk htk
           have h9 := (blk_cell D9.out 0).trans rfl
           clear p0 p1 p2 k1 k2 htk hi
           have HFT := Aside0.mk (rfl : (W.take j ++ [(iw : Int)]).foldl Tk.dec1 (Tk.sent1 s.ts (i : Int)) = (W.take j ++ [(iw : Int)]).foldl Tk.dec1 (Tk.sent1 s.ts (i : Int)))
           rw [List.foldl_append] at HFT
           have hfd : List.foldl Tk.dec1 (List.foldl Tk.dec1 (Tk.sent1 s.ts (i : Int)) (W.take j)) [(iw : Int)] = (List.foldl Tk.dec1 (Tk.sent1 s.ts (i : Int)) (W.take j)).set iw ⟨((List.foldl Tk.dec1 (Tk.sent1 s.ts (i : Int)) (W.take j)).getD iw z50).f0, ((List.foldl Tk.dec1 (Tk.sent1 s.ts (i : Int)) (W.take j)).getD iw z50).f1 - 1, ((List.foldl Tk.dec1 (Tk.sent1 s.ts (i : Int)) (W.take j)).getD iw z50).f2⟩ := rfl
           have HFD := Aside0.mk hfd
           clear hfd HFT
           generalize hxx : (List.foldl Tk.dec1 (Tk.sent1 s.ts (i : Int)) (W.take j)).getD iw z50 = x at hx0 hx1 hx2 hb1 P1 HFD
           clear hxx
           have e1 : wrap64 (x.f1 - 1) = x.f1 - 1 := by unfold wrap64; omega
           have e2 : IntKind.i64.wrap (x.f1 - 1) = x.f1 - 1 := by rw [IntKind.wrap_i64]; omega
           have q5 : decide ((j : Int) < (W.length : Int)) = true := decide_eq_true (by omega)
           have q6 : (j < W.length) = True := eq_true hlt
           have q7 : (iw < l0.length) = True := eq_true hil0w
           clear hx0 hx2 hy0 hy2 hb1
           go_wp2_with fail
           go_roundg (W.length - (j + 1))
           case measure => omega
           case rel => exact ⟨j + 1, by go_num, ⟨⟨by omega, by omega⟩⟩, ⟨blk_far D6.out (p := ⟨g, iw * 3 + 1, none⟩) NE6g.out _⟩, ⟨blk_far D8.out (p := ⟨g, iw * 3 + 1, none⟩) NE8g.out _⟩, ⟨blk_far D9.out (p := ⟨g, iw * 3 + 1, none⟩) NE9g.out _⟩, ⟨⟨_, blk_set DG.out (iw * 3 + 1) _⟩⟩, ⟨Kd.R_set DO.out DG.out (by decide) (iw * 3 + 1) _⟩, ⟨by rw [HTK.out, List.foldl_append, HFD.out]; exact (P1.out (x.f1 - 1)).1⟩, ⟨Kd.R_set DW.out DG.out (by decide) (iw * 3 + 1) _⟩, ⟨below_set DB.out GEg.out⟩⟩
          ·have hje : j = W.length := by omega
           subst hje
           rw [List.take_length] at DT
           have q5 : decide ((W.length : Int) < (W.length : Int)) = false := decide_eq_false (by omega)
           have q6 : (W.length < W.length) = False := eq_false (by omega)
           have hslot : Tk.slot s = ⟨W.foldl Tk.dec1 (Tk.sent1 s.ts (i : Int)), s.order ++ [(i : Int)], s.hits, s.slots + 1, s.draws⟩ := by rw [HSLOT.out, HMID.out]
           have HSL2 := Aside0.mk hslot
           clear hslot
           go_wp2_with fail
           go_roundg (a2 - (s.slots + 1)).toNat
           case measure => omega
           case rel => exact ⟨⟨W.foldl Tk.dec1 (Tk.sent1 s.ts (i : Int)), s.order ++ [(i : Int)], s.hits, s.slots + 1, s.draws⟩, A1', c1', (.slice Ao1 (s.order.length + 1) co1), rfl, HD, HDC, ⟨by have h := HSV.out.1; rw [HSL2.out] at h; exact h⟩, ⟨Nat.le_refl _⟩, ⟨by have h := HRS.out; rw [HSL2.out] at h; exact h.trans HRUN.out⟩, ⟨by have h := HSV.out.2.1; rw [HSL2.out] at h; exact h.trans HN.out⟩, ⟨by show s.slots + 1 ≤ a2; omega⟩, D6, D8, D9, DO, DT, DB⟩
        ·have q3 : ((S.length : Int) == 1) = false := beq_eq_false_iff_ne.mpr (show ¬ (S.length : Int) = 1 by omega)
         have q3' : (S.length == 1) = false := beq_eq_false_iff_ne.mpr cS1
         by_cases cS2 : 1 < S.length
         ·have q4 : decide ((S.length : Int) > 1) = true := decide_eq_true (by omega)
          have q4' : decide (1 < S.length) = true := decide_eq_true cS2
          rw [if_neg cS1, if_pos cS2] at HMID
          have hht := HI.out.ht
          have e1 : wrap64 (s.hits + 1) = s.hits + 1 := by unfold wrap64; omega
          have e2 : IntKind.i64.wrap (s.hits + 1) = s.hits + 1 := by rw [IntKind.wrap_i64]; omega
          have h81 := (blk_cell D8.out 1).trans rfl
          have hf81 := blk_frozen D8.out 1
          go_wp2_with fail
          have C6 := Aside0.mk (blk_far D6.out (p := ⟨g8, 1, none⟩) NE68.out (.int .i64 (s.hits + 1)))
          have C8 := Aside0.mk (blk_put D8.out 1 (.int .i64 (s.hits + 1)) (cs' := #[.slice Ao s.order.length co, .int .i64 (s.hits + 1), .int .i64 (s.slots + 1), .bool false]) rfl)
          have C9 := Aside0.mk (blk_far D9.out (p := ⟨g8, 1, none⟩) NE98.out (.int .i64 (s.hits + 1)))
          have CG := Aside0.mk (blk_far DG.out (p := ⟨g8, 1, none⟩) NEg8.out (.int .i64 (s.hits + 1)))
          have CO := Aside0.mk (Kd.R_set DO.out D8.out (by decide) 1 (.int .i64 (s.hits + 1)))
          have CT := Aside0.mk (Kd.R_set DT.out D8.out (by decide) 1 (.int .i64 (s.hits + 1)))
          have CS := Aside0.mk (Kd.R_set DS.out D8.out (by decide) 1 (.int .i64 (s.hits + 1)))
          have CW := Aside0.mk (Kd.R_set DW.out D8.out (by decide) 1 (.int .i64 (s.hits + 1)))
          have CB := Aside0.mk (below_set (j := 1) (v := .int .i64 (s.hits + 1)) DB.out GE8.out)
          clear D6 D8 D9 DG DO DT DS DW DB h81 hf81 e1 e2
          generalize World.setCell _ ⟨g8, 1, none⟩ (.int .i64 (s.hits + 1)) = w10 at C6 C8 C9 CG CO CT CS CW CB ⊢
          go_loopg [1, 112] S.length (fun kq v1 v112 wr => ∃ (j : Nat) (Ad : Option Addr) (cd : Nat) (ts1 : List Tk.T) (ds1 : List Int), v112 = .int .i64 (j : Int) ∧ v1 = .slice Ad ds1.length cd ∧ Aside0 (Kd.C (Kd.int .i64) w Ad ds1.length ds1) ∧ Aside0 (ds1.length ≤ cd) ∧ Aside0 (j ≤ S.length ∧ S.length - j ≤ kq) ∧ Aside0 ((S.take j).foldl Tk.hit1 (s.ts, s.draws) = (ts1, ds1)) ∧ Aside0 (wr.heap[g6]? = some (.cells #[.slice none 0 0, .int .i64 0, .int .i64 0, .bool false] 28 (0, 0))) ∧ Aside0 (wr.heap[g8]? = some (.cells #[.slice Ao s.order.length co, .int .i64 (s.hits + 1), .int .i64 (s.slots + 1), .bool false] 28 (0, 0))) ∧ Aside0 (wr.heap[g9]? = some (.cells #[.slice (some ⟨g, 0, none⟩) l0.length ct] 47 (0, 0))) ∧ Aside0 (∃ cs, wr.heap[g]? = some (.cells cs Tk.te (0, 0))) ∧ Aside0 (Kd.R (Kd.int .i64) 3 wr w.heap.size (fun k => k < w9.heap.size) (.slice Ao s.order.length co) s.order) ∧ Aside0 (Kd.R Tk.K Tk.te wr w.heap.size (fun _ => True) (.slice (some ⟨g, 0, none⟩) l0.length ct) ts1) ∧ Aside0 (Kd.R (Kd.int .i64) 3 wr w9.heap.size (fun k_ => w9.heap.size ≤ k_) (.slice A11 S.length c11) S) ∧ Aside0 (Kd.R (Kd.int .i64) 3 wr w9.heap.size (fun k_ => w9.heap.size ≤ k_) (.slice A12 W.length c12) W) ∧ Aside0 (Below w.heap.size w wr))
          case atStart => exact ⟨0, A1', c1', s.ts, s.draws, rfl, rfl, HD, HDC, ⟨⟨Nat.zero_le _, by omega⟩⟩, ⟨rfl⟩, C6, C8, C9, ⟨⟨_, CG.out⟩⟩, CO, CT, CS, CW, CB⟩
          case round =>
           clear C6 C8 C9 CG CO CT CS CW CB
           obtain ⟨j, Ad, cd, ts1, ds1, rfl, rfl, HDA, HDD, HJ, HP, D6, D8, D9, DGe, DO, DT, DS, DW, DB⟩ := hrel
           obtain ⟨cg, hcg⟩ := DGe.out
           have DG := Aside0.mk hcg
           clear hcg
           have hj := HJ.out
           by_cases hlt : j < S.length
           ·obtain ⟨i, hi, hil⟩ := HNS.out (rd S (j : Int)) (by rw [show rd S (j : Int) = S[j] by simp [rd, List.getD_eq_getElem?_getD, hlt]]; exact List.getElem_mem hlt)
            have htk : S.take (j + 1) = S.take j ++ [(i : Int)] := by rw [List.take_succ_eq_append_getElem hlt, ← hi]; simp [rd, List.getD_eq_getElem?_getD, hlt]
            obtain ⟨adS, eS, hxS⟩ := Kd.at_int (Kd.R_reads' DS.out).2.2 (j : Int) (by omega) (by omega)
            cases eS
            rw [hi, Int.toNat_natCast] at hxS
            have htin := HI.out.tin
            have h6 := HI.out.t6
            have hdr := HI.out.dr
            obtain ⟨k1, k2, k3⟩ := Tk.hits_in hdr (S.take j) htin (by omega) h6 (fun k hk => HNS.out k (List.mem_of_mem_take hk))
            rw [HP.out] at k1 k2 k3
            rw [List.length_take] at k1
            have hil0 : i < l0.length := by rw [← HN.out]; exact hil
            have hil1 : i < ts1.length := by have k3' : ts1.length = s.ts.length := k3; rw [k3']; exact hil
            obtain ⟨n1, n2, n3, n4⟩ := Tk.hit1_in (ts := ts1) (ds := ds1) k1 (by omega) k2 i hil1 (by have k3' : ts1.length = s.ts.length := k3; omega)
            have hb1 := k1 i hil1
            obtain ⟨hx0, hx1, hx2, hy0, hy1, hy2⟩ := Tk.cell DT.out i hil0
            obtain ⟨p0, p1, p2⟩ := Tk.put DT.out i hil0
            have hsP : (S.take (j + 1)).foldl Tk.hit1 (s.ts, s.draws) = Tk.hit1 (ts1, ds1) (i : Int) := by rw [htk, List.foldl_append, HP.out]; rfl
            generalize hxx : ts1.getD i z50 = x at hx0 hx1 hx2 hb1 p0 p1 p2
            rw [Tk.hit1_def ts1 ds1 i hil1 x hxx] at hsP
            have HSP := Aside0.mk hsP
            have HXX := Aside0.mk hxx
            have HB1 := Aside0.mk hb1
            have hwt := Tk.wait_eq (t := x.f2 + 1) (by omega) n4.1 n4.2
            have HWT := Aside0.mk hwt.1
            have HN4 := Aside0.mk n4
            clear p0 p1 p2 k1 k2 k3 htk hi hsP n1 n2 n3 n4 hxx hwt htin hdr hht
            have e1 : wrap64 (x.f2 + 1) = x.f2 + 1 := by unfold wrap64; omega
            have e2 : IntKind.i64.wrap (x.f2 + 1) = x.f2 + 1 := by rw [IntKind.wrap_i64]; omega
            have e3 : wrap64 (33 * (i : Int)) = 33 * (i : Int) := by unfold wrap64; omega
            have e4 : IntKind.i64.wrap (33 * (i : Int)) = 33 * (i : Int) := by rw [IntKind.wrap_i64]; omega
            have q5 : decide ((j : Int) < (S.length : Int)) = true := decide_eq_true (by omega)
            have q6 : (j < S.length) = True := eq_true hlt
            have q7 : (i < l0.length) = True := eq_true hil0
            clear hx0 hx1 hx2 hy0 hy1 hy2 hb1
            cases ds1 with
            | nil =>
             have HWT2 := Aside0.mk (show impl_WaitOf.f (x.f2 + 1) (33 * (i : Int)) = some (Tk.wait (x.f2 + 1) (33 * (i : Int))) from HWT.out)
             obtain ⟨hx0, hx1, hx2, hy0, hy1, hy2⟩ := Tk.cell DT.out i hil0
             obtain ⟨p0, p1, p2⟩ := Tk.put DT.out i hil0
             rw [HXX.out] at hx2 p2
             have P2 := Aside0.mk p2
             have h9 := (blk_cell D9.out 0).trans rfl
             clear hx0 hx1 hy0 hy1 p0 p1 p2
             go_wp2_with fail
             have C6 := Aside0.mk (blk_drew (blk_far D6.out (p := ⟨g, i * 3 + 2, none⟩) NE6g.out (.int .i64 (x.f2 + 1))))
             have C8 := Aside0.mk (blk_drew (blk_far D8.out (p := ⟨g, i * 3 + 2, none⟩) NE8g.out (.int .i64 (x.f2 + 1))))
             have C9 := Aside0.mk (blk_drew (blk_far D9.out (p := ⟨g, i * 3 + 2, none⟩) NE9g.out (.int .i64 (x.f2 + 1))))
             have CG := Aside0.mk (blk_drew (blk_set DG.out (i * 3 + 2) (.int .i64 (x.f2 + 1))))
             have CO := Aside0.mk (Kd.R_drew (Kd.R_set DO.out DG.out (by decide) (i * 3 + 2) (.int .i64 (x.f2 + 1))))
             have CS := Aside0.mk (Kd.R_drew (Kd.R_set DS.out DG.out (by decide) (i * 3 + 2) (.int .i64 (x.f2 + 1))))
             have CW := Aside0.mk (Kd.R_drew (Kd.R_set DW.out DG.out (by decide) (i * 3 + 2) (.int .i64 (x.f2 + 1))))
             have CT := Aside0.mk (Kd.R_drew (P2.out (x.f2 + 1)).1)
             have CB := Aside0.mk (below_drew1 (below_set (j := i * 3 + 2) (v := .int .i64 (x.f2 + 1)) DB.out GEg.out))
             clear D6 D8 D9 DG DO DT DS DW DB P2 h9 hx2 hy2
             obtain ⟨ux0, ux1, ux2, uy0, uy1, uy2⟩ := Tk.cell CT.out i hil0
             have hgs : (ts1.set i (⟨x.f0, x.f1, x.f2 + 1⟩ : Tk.T)).getD i z50 = ⟨x.f0, x.f1, x.f2 + 1⟩ := by rw [Tk.getD_set ts1 i i _ hil1, if_pos rfl]
             rw [hgs] at ux0 ux1 ux2
             have h9 := (blk_cell C9.out 0).trans rfl
             clear ux0 uy0 uy2 hgs
             refine start_ (n := 12) (S := fun w' => w'.cell? ⟨g9, 0, none⟩ = some (.slice (some ⟨g, 0, none⟩) l0.length ct) ∧ w'.cell? ⟨g, i * 3 + 2, none⟩ = some (.int .i64 (x.f2 + 1))) (ds := [11]) #[false, false, false, false, false, false, false, false, false, false, false, false] (by kernel_rfl) rfl rfl ⟨h9, ux2⟩ (fun hHeld => ?_); refine with_tabW impl_RunTalk.tab31 impl_RunTalk.bits31 (fun HT_ HW_ => ?_)
             generalize World.drew _ = w12 at C6 C8 C9 CG CO CS CW CT CB h9 ux1 ux2 uy1 hHeld ⊢
             refine pure_ (i := 1) (N := some 135) (v := ?_) (a' := ?_) #[false, true, false, false, false, false, false, false, false, false, false, false] rfl rfl (any_of HT_.out (by kernel_rfl)) (fun _ _ _ h => h) (Or.inl ⟨by rfl, ?_⟩) ?_ ?_
             rotate_left
             ·intro w'
              go_simp
              with_reducible rfl
             rotate_left
             ·simp only [Act.put, List.setIfInBounds_toArray, List.set_cons_zero, List.set_cons_succ, i64_w, i32_w]
              rfl
             refine pure_ (i := 3) (N := some 137) (v := ?_) (a' := ?_) #[false, true, false, true, false, false, false, false, false, false, false, false] rfl rfl (any_of HT_.out (by kernel_rfl)) (fun _ _ _ h => h) (Or.inl ⟨by rfl, ?_⟩) ?_ ?_
             rotate_left
             ·intro w'
              go_simp
              with_reducible rfl
             rotate_left
             ·simp only [Act.put, List.setIfInBounds_toArray, List.set_cons_zero, List.set_cons_succ, i64_w, i32_w]
              rfl
             refine pure_ (i := 7) (N := some 141) (v := ?_) (a' := ?_) #[false, true, false, true, false, false, false, true, false, false, false, false] rfl rfl (any_of HT_.out (by kernel_rfl)) (fun _ _ _ h => h) (Or.inl ⟨by rfl, ?_⟩) ?_ ?_
             rotate_left
             ·intro w'
              go_simp
              with_reducible rfl
             rotate_left
             ·simp only [Act.put, List.setIfInBounds_toArray, List.set_cons_zero, List.set_cons_succ, i64_w, i32_w]
              rfl
             refine take_ (i := 0) (N := some 134) (v := ?_) (a' := ?_) #[true, true, false, true, false, false, false, true, false, false, false, false] rfl rfl (take_ofW HT_.out HW_.out (by kernel_rfl)) (fun _ _ _ h => h) (Or.inl ⟨by rfl, ?_⟩) hHeld ?_ ?_
             rotate_left
             ·rintro w' ⟨s0, s1⟩
              go_simp
              with_reducible rfl
             rotate_left
             ·simp only [Act.put, List.setIfInBounds_toArray, List.set_cons_zero, List.set_cons_succ, i64_w, i32_w]
              rfl
             refine take_ (i := 2) (N := some 136) (v := ?_) (a' := ?_) #[true, true, true, true, false, false, false, true, false, false, false, false] rfl rfl (take_ofW HT_.out HW_.out (by kernel_rfl)) (fun _ _ _ h => h) (Or.inl ⟨by rfl, ?_⟩) hHeld ?_ ?_
             rotate_left
             ·rintro w' ⟨s0, s1⟩
              go_simp
              with_reducible rfl
             rotate_left
             ·simp only [Act.put, List.setIfInBounds_toArray, List.set_cons_zero, List.set_cons_succ, i64_w, i32_w]
              rfl
             refine pure_ (i := 4) (N := some 138) (v := ?_) (a' := ?_) #[true, true, true, true, true, false, false, true, false, false, false, false] rfl rfl (any_of HT_.out (by kernel_rfl)) (fun _ _ _ h => h) (Or.inl ⟨by rfl, ?_⟩) ?_ ?_
             rotate_left
             ·intro w'
              go_simp
              with_reducible rfl
             rotate_left
             ·simp only [Act.put, List.setIfInBounds_toArray, List.set_cons_zero, List.set_cons_succ, i64_w, i32_w]
              rfl
             refine pure_ (i := 5) (N := some 139) (v := ?_) (a' := ?_) #[true, true, true, true, true, true, false, true, false, false, false, false] rfl rfl (any_of HT_.out (by kernel_rfl)) (fun _ _ _ h => h) (Or.inl ⟨by rfl, ?_⟩) ?_ ?_
             rotate_left
             ·intro w'
              go_simp
              with_reducible rfl
             rotate_left
             ·simp only [Act.put, List.setIfInBounds_toArray, List.set_cons_zero, List.set_cons_succ, i64_w, i32_w]
              rfl
             refine take_ (i := 6) (N := some 140) (v := ?_) (a' := ?_) #[true, true, true, true, true, true, true, true, false, false, false, false] rfl rfl (take_ofW HT_.out HW_.out (by kernel_rfl)) (fun _ _ _ h => h) (Or.inl ⟨by rfl, ?_⟩) hHeld ?_ ?_
             rotate_left
             ·rintro w' ⟨s0, s1⟩
              go_simp
              with_reducible rfl
             rotate_left
             ·simp only [Act.put, List.setIfInBounds_toArray, List.set_cons_zero, List.set_cons_succ, i64_w, i32_w]
              rfl
             refine one_ (i := 8) (N := some 142) #[true, true, true, true, true, true, true, true, true, false, false, false] rfl rfl (one_of HT_.out (by kernel_rfl)) (by decide) (fun K hK => ?_)
             refine goes_ Try.func35 (by kernel_rfl) rfl #[.int .i64 (x.f2 + 1), .int .i64 (33 * (i : Int))] (by rfl) rfl rfl (by simp only [List.map_toArray, List.map_cons, List.map_nil]; rfl) ?_
             with_reducible refine (impl_WaitOf.calls (x.f2 + 1) (33 * (i : Int)) (Tk.wait (x.f2 + 1) (33 * (i : Int))) _ HWT2.out).mono ?_
             rintro e w13 ⟨rfl, hb⟩
             have vx1 := (hb.cell (World.block_lt_of_cell? w12 _ ux1)).trans ux1
             have vy1 := (Tk.cell (Kd.R_below CT.out hb) i hil0).2.2.2.2.1
             refine ⟨_, rfl, ?_⟩
             refine hK.out _ _ ⟨(hb.cell (World.block_lt_of_cell? w12 _ hHeld.1)).trans hHeld.1, (hb.cell (World.block_lt_of_cell? w12 _ hHeld.2)).trans hHeld.2⟩ (fun hHeld => ?_)
             clear hK K
             refine norm_ (a' := ?_) ?_ ?_
             rotate_left
             ·show Act.put _ (some 142) _ = _
              simp only [Act.put, List.setIfInBounds_toArray, List.set_cons_zero, List.set_cons_succ, i64_w, i32_w]
              rfl
             refine pure_ (i := 9) (N := some 143) (v := ?_) (a' := ?_) #[true, true, true, true, true, true, true, true, true, true, false, false] rfl rfl (any_of HT_.out (by kernel_rfl)) (fun _ _ _ h => h) (Or.inl ⟨by rfl, ?_⟩) ?_ ?_
             rotate_left
             ·intro w'
              go_simp
              with_reducible rfl
             rotate_left
             ·simp only [Act.put, List.setIfInBounds_toArray, List.set_cons_zero, List.set_cons_succ, i64_w, i32_w]
              rfl
             refine pure_ (i := 10) (N := some 144) (v := ?_) (a' := ?_) #[true, true, true, true, true, true, true, true, true, true, true, false] rfl rfl (any_of HT_.out (by kernel_rfl)) (fun _ _ _ h => h) (Or.inl ⟨by rfl, ?_⟩) ?_ ?_
             rotate_left
             ·intro w'
              go_simp
              with_reducible rfl
             rotate_left
             ·simp only [Act.put, List.setIfInBounds_toArray, List.set_cons_zero, List.set_cons_succ, i64_w, i32_w]
              rfl
             refine last_ (i := 11) (N := none) #[true, true, true, true, true, true, true, true, true, true, true, true] rfl rfl (one_of HT_.out (by kernel_rfl)) (by decide) (fun K hK => ?_)
             refine skip_ (w1 := ?_) (by rfl) rfl ?_ ?_
             rotate_left
             ·go_simp
              rfl
             refine hK.out _ _ ?_
             clear hK K
             refine done_ (done_of HT_.out (by kernel_rfl)) ?_
             go_wp2_with fail
             go_roundg (S.length - (j + 1))
             case measure => omega
             case rel =>
              refine ⟨j + 1, Ad, cd, _, [], by go_num, rfl, HDA, HDD, ⟨⟨by omega, by omega⟩⟩, HSP, ?_⟩
              exact ⟨⟨blk_far (blk_below C6.out hb) (p := ⟨g, i * 3 + 1, none⟩) NE6g.out _⟩, ⟨blk_far (blk_below C8.out hb) (p := ⟨g, i * 3 + 1, none⟩) NE8g.out _⟩, ⟨blk_far (blk_below C9.out hb) (p := ⟨g, i * 3 + 1, none⟩) NE9g.out _⟩, ⟨⟨_, blk_set (blk_below CG.out hb) (i * 3 + 1) _⟩⟩, ⟨Kd.R_set (Kd.R_below CO.out hb) (blk_below CG.out hb) (by decide) (i * 3 + 1) _⟩, ⟨((Tk.put (Kd.R_below CT.out hb) i hil0).2.1 (Tk.wait (x.f2 + 1) (33 * (i : Int)))).1⟩, ⟨Kd.R_set (Kd.R_below CS.out hb) (blk_below CG.out hb) (by decide) (i * 3 + 1) _⟩, ⟨Kd.R_set (Kd.R_below CW.out hb) (blk_below CG.out hb) (by decide) (i * 3 + 1) _⟩, ⟨below_set (below_step CB.out hb) GEg.out⟩⟩
            | cons dd tl =>
             obtain ⟨adA, eA, hxA⟩ := Kd.at_int (Kd.C_below HDA.out DB.out) 0 (by omega) (by simp only [List.length_cons]; omega)
             subst eA
             (try rw [show ((0 : Int)).toNat = 0 from rfl] at hxA)
             (try rw [Addr.add_zero'] at hxA)
             have hxA' : wr.cell? adA = some (.int .i64 dd) := hxA
             obtain ⟨i0, hi0, _, hsz0, _⟩ := info_parts info3
             have hcd := HDD.out
             rw [List.length_cons] at hcd
             have hcut := cut_from (P := Try.prog) 23 3 .i64 Try.underlying23 hi0 1 hsz0 (some adA) (tl.length + 1) cd 1 (by omega) (by omega)
             have hdr := Kd.C_drop (m := (1 : Int).toNat) (c := cd) HDA.out (by simp) hcd
             obtain ⟨A2, hA2⟩ : ∃ A2, A2 = (if cd = (1 : Int).toNat then (some adA) else ((some adA) : Option Addr).map (·.add ((1 : Int).toNat * 1))) := ⟨_, rfl⟩
             obtain ⟨c2, hc2⟩ : ∃ c2, c2 = cd - (1 : Int).toNat := ⟨_, rfl⟩
             rw [← hA2, ← hc2, show tl.length + 1 - (1 : Int).toNat = tl.length by simp] at hcut
             have HDA2 := Aside0.mk (show Kd.C (Kd.int .i64) w A2 tl.length tl by rw [hA2]; exact hdr)
             have HDD2 := Aside0.mk (show tl.length ≤ c2 by rw [hc2, show (1 : Int).toNat = 1 from rfl]; omega)
             have q8 : decide (tl.length + 1 > 0) = true := decide_eq_true (by omega)
             have q8' : decide (0 < tl.length + 1) = true := decide_eq_true (by omega)
             have q9 : ((0 : Int) < ((tl.length + 1 : Nat) : Int)) = True := eq_true (by omega)
             have q9' : ((0 : Int) < (tl.length : Int) + 1) = True := eq_true (by omega)
             clear hdr hA2 hc2 hxA hi0 hsz0
             go_wp2_with fail
             have b6_ := Aside0.mk (blk_drew D6.out)
             have b8_ := Aside0.mk (blk_drew D8.out)
             have b9_ := Aside0.mk (blk_drew D9.out)
             have bg_ := Aside0.mk (blk_drew DG.out)
             have ro_ := Aside0.mk (Kd.R_drew DO.out)
             have rt_ := Aside0.mk (Kd.R_drew DT.out)
             have rs_ := Aside0.mk (Kd.R_drew DS.out)
             have rw_ := Aside0.mk (Kd.R_drew DW.out)
             have hb_ := Aside0.mk (below_drew1 DB.out)
             have hxd_ : wr.drew.cell? adA = some (.int .i64 dd) := hxA'
             clear D6 D8 D9 DG DO DT DS DW DB hxA'
             have D6 := b6_
             have D8 := b8_
             have D9 := b9_
             have DG := bg_
             have DO := ro_
             have DT := rt_
             have DS := rs_
             have DW := rw_
             have DB := hb_
             clear b6_ b8_ b9_ bg_ ro_ rt_ rs_ rw_ hb_
             refine start_ (n := 7) (S := fun w' => w'.cell? adA = some (.int .i64 dd)) (ds := []) #[false, false, false, false, false, false, false] (by kernel_rfl) rfl rfl (hxd_) (fun hHeld => ?_)
             generalize wr.drew = w10' at D6 D8 D9 DG DO DT DS DW DB hxd_ hHeld ⊢
             refine pure_ (i := 0) (N := some 121) (v := ?_) (a' := ?_) #[true, false, false, false, false, false, false] rfl rfl (by kernel_rfl) (fun _ _ _ h => h) (Or.inl ⟨by rfl, ?_⟩) ?_ ?_
             rotate_left
             ·intro w'
              go_simp
              with_reducible rfl
             rotate_left
             ·simp only [Act.put, List.setIfInBounds_toArray, List.set_cons_zero, List.set_cons_succ, i64_w, i32_w]
              rfl
             refine pure_ (i := 1) (N := some 122) (v := ?_) (a' := ?_) #[true, true, false, false, false, false, false] rfl rfl (by kernel_rfl) (fun _ _ _ h => h) (Or.inl ⟨by rfl, ?_⟩) ?_ ?_
             rotate_left
             ·intro w'
              go_simp
              with_reducible rfl
             rotate_left
             ·simp only [Act.put, List.setIfInBounds_toArray, List.set_cons_zero, List.set_cons_succ, i64_w, i32_w]
              rfl
             refine pure_ (i := 3) (N := some 124) (v := ?_) (a' := ?_) #[true, true, false, true, false, false, false] rfl rfl (by kernel_rfl) (fun _ _ _ h => h) (Or.inl ⟨by rfl, ?_⟩) ?_ ?_
             rotate_left
             ·intro w'
              go_simp
              with_reducible rfl
             rotate_left
             ·simp only [Act.put, List.setIfInBounds_toArray, List.set_cons_zero, List.set_cons_succ, i64_w, i32_w]
              rfl
             refine pure_ (i := 4) (N := some 125) (v := ?_) (a' := ?_) #[true, true, false, true, true, false, false] rfl rfl (by kernel_rfl) (fun _ _ _ h => h) (Or.inl ⟨by rfl, ?_⟩) ?_ ?_
             rotate_left
             ·intro w'
              go_simp
              with_reducible rfl
             rotate_left
             ·simp only [Act.put, List.setIfInBounds_toArray, List.set_cons_zero, List.set_cons_succ, i64_w, i32_w]
              rfl
             refine take_ (i := 2) (N := some 123) (v := ?_) (a' := ?_) #[true, true, true, true, true, false, false] rfl rfl (by kernel_rfl) (fun _ _ _ h => h) (Or.inl ⟨by rfl, ?_⟩) hHeld ?_ ?_
             rotate_left
             ·intro w' s0
              go_simp
              with_reducible rfl
             rotate_left
             ·simp only [Act.put, List.setIfInBounds_toArray, List.set_cons_zero, List.set_cons_succ, i64_w, i32_w]
              rfl
             refine pure_ (i := 5) (N := some 18) (v := ?_) (a' := ?_) #[true, true, true, true, true, true, false] rfl rfl (by kernel_rfl) (fun _ _ _ h => h) (Or.inl ⟨by rfl, ?_⟩) ?_ ?_
             rotate_left
             ·intro w'
              go_simp
              with_reducible rfl
             rotate_left
             ·simp only [Act.put, List.setIfInBounds_toArray, List.set_cons_zero, List.set_cons_succ, i64_w, i32_w]
              rfl
             refine pure_ (i := 6) (N := some 1) (v := ?_) (a' := ?_) #[true, true, true, true, true, true, true] rfl rfl (by kernel_rfl) (fun _ _ _ h => h) (Or.inl ⟨by rfl, ?_⟩) ?_ ?_
             rotate_left
             ·intro w'
              go_simp
              with_reducible rfl
             rotate_left
             ·simp only [Act.put, List.setIfInBounds_toArray, List.set_cons_zero, List.set_cons_succ, i64_w, i32_w]
              rfl
             refine done_ (by kernel_rfl) ?_
             clear hxd_ hHeld hcut
             have HWT2 := Aside0.mk (show impl_WaitOf.f (x.f2 + 1) dd = some (Tk.wait (x.f2 + 1) dd) from HWT.out)
             obtain ⟨hx0, hx1, hx2, hy0, hy1, hy2⟩ := Tk.cell DT.out i hil0
             obtain ⟨p0, p1, p2⟩ := Tk.put DT.out i hil0
             rw [HXX.out] at hx2 p2
             have P2 := Aside0.mk p2
             have h9 := (blk_cell D9.out 0).trans rfl
             clear hx0 hx1 hy0 hy1 p0 p1 p2
             go_wp2_with fail
             have C6 := Aside0.mk (blk_drew (blk_far D6.out (p := ⟨g, i * 3 + 2, none⟩) NE6g.out (.int .i64 (x.f2 + 1))))
             have C8 := Aside0.mk (blk_drew (blk_far D8.out (p := ⟨g, i * 3 + 2, none⟩) NE8g.out (.int .i64 (x.f2 + 1))))
             have C9 := Aside0.mk (blk_drew (blk_far D9.out (p := ⟨g, i * 3 + 2, none⟩) NE9g.out (.int .i64 (x.f2 + 1))))
             have CG := Aside0.mk (blk_drew (blk_set DG.out (i * 3 + 2) (.int .i64 (x.f2 + 1))))
             have CO := Aside0.mk (Kd.R_drew (Kd.R_set DO.out DG.out (by decide) (i * 3 + 2) (.int .i64 (x.f2 + 1))))
             have CS := Aside0.mk (Kd.R_drew (Kd.R_set DS.out DG.out (by decide) (i * 3 + 2) (.int .i64 (x.f2 + 1))))
             have CW := Aside0.mk (Kd.R_drew (Kd.R_set DW.out DG.out (by decide) (i * 3 + 2) (.int .i64 (x.f2 + 1))))
             have CT := Aside0.mk (Kd.R_drew (P2.out (x.f2 + 1)).1)
             have CB := Aside0.mk (below_drew1 (below_set (j := i * 3 + 2) (v := .int .i64 (x.f2 + 1)) DB.out GEg.out))
             clear D6 D8 D9 DG DO DT DS DW DB P2 h9 hx2 hy2
             obtain ⟨ux0, ux1, ux2, uy0, uy1, uy2⟩ := Tk.cell CT.out i hil0
             have hgs : (ts1.set i (⟨x.f0, x.f1, x.f2 + 1⟩ : Tk.T)).getD i z50 = ⟨x.f0, x.f1, x.f2 + 1⟩ := by rw [Tk.getD_set ts1 i i _ hil1, if_pos rfl]
             rw [hgs] at ux0 ux1 ux2
             have h9 := (blk_cell C9.out 0).trans rfl
             clear ux0 uy0 uy2 hgs
             refine start_ (n := 12) (S := fun w' => w'.cell? ⟨g9, 0, none⟩ = some (.slice (some ⟨g, 0, none⟩) l0.length ct) ∧ w'.cell? ⟨g, i * 3 + 2, none⟩ = some (.int .i64 (x.f2 + 1))) (ds := [11]) #[false, false, false, false, false, false, false, false, false, false, false, false] (by kernel_rfl) rfl rfl ⟨h9, ux2⟩ (fun hHeld => ?_); refine with_tabW impl_RunTalk.tab31 impl_RunTalk.bits31 (fun HT_ HW_ => ?_)
             generalize World.drew _ = w12 at C6 C8 C9 CG CO CS CW CT CB h9 ux1 ux2 uy1 hHeld ⊢
             refine pure_ (i := 1) (N := some 135) (v := ?_) (a' := ?_) #[false, true, false, false, false, false, false, false, false, false, false, false] rfl rfl (any_of HT_.out (by kernel_rfl)) (fun _ _ _ h => h) (Or.inl ⟨by rfl, ?_⟩) ?_ ?_
             rotate_left
             ·intro w'
              go_simp
              with_reducible rfl
             rotate_left
             ·simp only [Act.put, List.setIfInBounds_toArray, List.set_cons_zero, List.set_cons_succ, i64_w, i32_w]
              rfl
             refine pure_ (i := 3) (N := some 137) (v := ?_) (a' := ?_) #[false, true, false, true, false, false, false, false, false, false, false, false] rfl rfl (any_of HT_.out (by kernel_rfl)) (fun _ _ _ h => h) (Or.inl ⟨by rfl, ?_⟩) ?_ ?_
             rotate_left
             ·intro w'
              go_simp
              with_reducible rfl
             rotate_left
             ·simp only [Act.put, List.setIfInBounds_toArray, List.set_cons_zero, List.set_cons_succ, i64_w, i32_w]
              rfl
             refine pure_ (i := 7) (N := some 141) (v := ?_) (a' := ?_) #[false, true, false, true, false, false, false, true, false, false, false, false] rfl rfl (any_of HT_.out (by kernel_rfl)) (fun _ _ _ h => h) (Or.inl ⟨by rfl, ?_⟩) ?_ ?_
             rotate_left
             ·intro w'
              go_simp
              with_reducible rfl
             rotate_left
             ·simp only [Act.put, List.setIfInBounds_toArray, List.set_cons_zero, List.set_cons_succ, i64_w, i32_w]
              rfl
             refine take_ (i := 0) (N := some 134) (v := ?_) (a' := ?_) #[true, true, false, true, false, false, false, true, false, false, false, false] rfl rfl (take_ofW HT_.out HW_.out (by kernel_rfl)) (fun _ _ _ h => h) (Or.inl ⟨by rfl, ?_⟩) hHeld ?_ ?_
             rotate_left
             ·rintro w' ⟨s0, s1⟩
              go_simp
              with_reducible rfl
             rotate_left
             ·simp only [Act.put, List.setIfInBounds_toArray, List.set_cons_zero, List.set_cons_succ, i64_w, i32_w]
              rfl
             refine take_ (i := 2) (N := some 136) (v := ?_) (a' := ?_) #[true, true, true, true, false, false, false, true, false, false, false, false] rfl rfl (take_ofW HT_.out HW_.out (by kernel_rfl)) (fun _ _ _ h => h) (Or.inl ⟨by rfl, ?_⟩) hHeld ?_ ?_
             rotate_left
             ·rintro w' ⟨s0, s1⟩
              go_simp
              with_reducible rfl
             rotate_left
             ·simp only [Act.put, List.setIfInBounds_toArray, List.set_cons_zero, List.set_cons_succ, i64_w, i32_w]
              rfl
             refine pure_ (i := 4) (N := some 138) (v := ?_) (a' := ?_) #[true, true, true, true, true, false, false, true, false, false, false, false] rfl rfl (any_of HT_.out (by kernel_rfl)) (fun _ _ _ h => h) (Or.inl ⟨by rfl, ?_⟩) ?_ ?_
             rotate_left
             ·intro w'
              go_simp
              with_reducible rfl
             rotate_left
             ·simp only [Act.put, List.setIfInBounds_toArray, List.set_cons_zero, List.set_cons_succ, i64_w, i32_w]
              rfl
             refine pure_ (i := 5) (N := some 139) (v := ?_) (a' := ?_) #[true, true, true, true, true, true, false, true, false, false, false, false] rfl rfl (any_of HT_.out (by kernel_rfl)) (fun _ _ _ h => h) (Or.inl ⟨by rfl, ?_⟩) ?_ ?_
             rotate_left
             ·intro w'
              go_simp
              with_reducible rfl
             rotate_left
             ·simp only [Act.put, List.setIfInBounds_toArray, List.set_cons_zero, List.set_cons_succ, i64_w, i32_w]
              rfl
             refine take_ (i := 6) (N := some 140) (v := ?_) (a' := ?_) #[true, true, true, true, true, true, true, true, false, false, false, false] rfl rfl (take_ofW HT_.out HW_.out (by kernel_rfl)) (fun _ _ _ h => h) (Or.inl ⟨by rfl, ?_⟩) hHeld ?_ ?_
             rotate_left
             ·rintro w' ⟨s0, s1⟩
              go_simp
              with_reducible rfl
             rotate_left
             ·simp only [Act.put, List.setIfInBounds_toArray, List.set_cons_zero, List.set_cons_succ, i64_w, i32_w]
              rfl
             refine one_ (i := 8) (N := some 142) #[true, true, true, true, true, true, true, true, true, false, false, false] rfl rfl (one_of HT_.out (by kernel_rfl)) (by decide) (fun K hK => ?_)
             refine goes_ Try.func35 (by kernel_rfl) rfl #[.int .i64 (x.f2 + 1), .int .i64 dd] (by rfl) rfl rfl (by simp only [List.map_toArray, List.map_cons, List.map_nil]; rfl) ?_
             with_reducible refine (impl_WaitOf.calls (x.f2 + 1) dd (Tk.wait (x.f2 + 1) dd) _ HWT2.out).mono ?_
             rintro e w13 ⟨rfl, hb⟩
             have vx1 := (hb.cell (World.block_lt_of_cell? w12 _ ux1)).trans ux1
             have vy1 := (Tk.cell (Kd.R_below CT.out hb) i hil0).2.2.2.2.1
             refine ⟨_, rfl, ?_⟩
             refine hK.out _ _ ⟨(hb.cell (World.block_lt_of_cell? w12 _ hHeld.1)).trans hHeld.1, (hb.cell (World.block_lt_of_cell? w12 _ hHeld.2)).trans hHeld.2⟩ (fun hHeld => ?_)
             clear hK K
             refine norm_ (a' := ?_) ?_ ?_
             rotate_left
             ·show Act.put _ (some 142) _ = _
              simp only [Act.put, List.setIfInBounds_toArray, List.set_cons_zero, List.set_cons_succ, i64_w, i32_w]
              rfl
             refine pure_ (i := 9) (N := some 143) (v := ?_) (a' := ?_) #[true, true, true, true, true, true, true, true, true, true, false, false] rfl rfl (any_of HT_.out (by kernel_rfl)) (fun _ _ _ h => h) (Or.inl ⟨by rfl, ?_⟩) ?_ ?_
             rotate_left
             ·intro w'
              go_simp
              with_reducible rfl
             rotate_left
             ·simp only [Act.put, List.setIfInBounds_toArray, List.set_cons_zero, List.set_cons_succ, i64_w, i32_w]
              rfl
             refine pure_ (i := 10) (N := some 144) (v := ?_) (a' := ?_) #[true, true, true, true, true, true, true, true, true, true, true, false] rfl rfl (any_of HT_.out (by kernel_rfl)) (fun _ _ _ h => h) (Or.inl ⟨by rfl, ?_⟩) ?_ ?_
             rotate_left
             ·intro w'
              go_simp
              with_reducible rfl
             rotate_left
             ·simp only [Act.put, List.setIfInBounds_toArray, List.set_cons_zero, List.set_cons_succ, i64_w, i32_w]
              rfl
             refine last_ (i := 11) (N := none) #[true, true, true, true, true, true, true, true, true, true, true, true] rfl rfl (one_of HT_.out (by kernel_rfl)) (by decide) (fun K hK => ?_)
             refine skip_ (w1 := ?_) (by rfl) rfl ?_ ?_
             rotate_left
             ·go_simp
              rfl
             refine hK.out _ _ ?_
             clear hK K
             refine done_ (done_of HT_.out (by kernel_rfl)) ?_
             go_wp2_with fail
             go_roundg (S.length - (j + 1))
             case measure => omega
             case rel =>
              refine ⟨j + 1, A2, c2, _, tl, by go_num, rfl, HDA2, HDD2, ⟨⟨by omega, by omega⟩⟩, HSP, ?_⟩
              exact ⟨⟨blk_far (blk_below C6.out hb) (p := ⟨g, i * 3 + 1, none⟩) NE6g.out _⟩, ⟨blk_far (blk_below C8.out hb) (p := ⟨g, i * 3 + 1, none⟩) NE8g.out _⟩, ⟨blk_far (blk_below C9.out hb) (p := ⟨g, i * 3 + 1, none⟩) NE9g.out _⟩, ⟨⟨_, blk_set (blk_below CG.out hb) (i * 3 + 1) _⟩⟩, ⟨Kd.R_set (Kd.R_below CO.out hb) (blk_below CG.out hb) (by decide) (i * 3 + 1) _⟩, ⟨((Tk.put (Kd.R_below CT.out hb) i hil0).2.1 (Tk.wait (x.f2 + 1) dd)).1⟩, ⟨Kd.R_set (Kd.R_below CS.out hb) (blk_below CG.out hb) (by decide) (i * 3 + 1) _⟩, ⟨Kd.R_set (Kd.R_below CW.out hb) (blk_below CG.out hb) (by decide) (i * 3 + 1) _⟩, ⟨below_set (below_step CB.out hb) GEg.out⟩⟩
           ·have hje : j = S.length := by omega
            subst hje
            have hp := HP.out
            rw [List.take_length] at hp
            have hm2 : Tk.mid s = ⟨ts1, s.order, s.hits + 1, s.slots + 1, ds1⟩ := by rw [HMID.out, hp]
            clear HMID hp HP
            have HMID := Aside0.mk hm2
            clear hm2
            have q5 : decide ((S.length : Int) < (S.length : Int)) = false := decide_eq_false (by omega)
            have q6 : (S.length < S.length) = False := eq_false (by omega)
            go_wp2_with fail
            have HIT := Aside0.mk (show Tk.InT (20 * s.slots + 6) (ts1) ∧ (ts1).length = s.ts.length from by have h := HMIN.out; rw [HMID.out] at h; exact ⟨h.1, h.2.1⟩)
            go_loopg [148] W.length (fun kq v148 wr => ∃ j : Nat, v148 = .int .i64 (j : Int) ∧ Aside0 (j ≤ W.length ∧ W.length - j ≤ kq) ∧ Aside0 (wr.heap[g6]? = some (.cells #[.slice none 0 0, .int .i64 0, .int .i64 0, .bool false] 28 (0, 0))) ∧ Aside0 (wr.heap[g8]? = some (.cells #[(.slice Ao s.order.length co), .int .i64 (s.hits + 1), .int .i64 (s.slots + 1), .bool false] 28 (0, 0))) ∧ Aside0 (wr.heap[g9]? = some (.cells #[.slice (some ⟨g, 0, none⟩) l0.length ct] 47 (0, 0))) ∧ Aside0 (∃ cs, wr.heap[g]? = some (.cells cs Tk.te (0, 0))) ∧ Aside0 (Kd.R (Kd.int .i64) 3 wr w.heap.size (fun _ => True) (.slice Ao s.order.length co) (s.order)) ∧ Aside0 (Kd.R Tk.K Tk.te wr w.heap.size (fun _ => True) (.slice (some ⟨g, 0, none⟩) l0.length ct) ((W.take j).foldl Tk.dec1 (ts1))) ∧ Aside0 (Kd.R (Kd.int .i64) 3 wr w9.heap.size (fun k_ => w9.heap.size ≤ k_) (.slice A12 W.length c12) W) ∧ Aside0 (Below w.heap.size w wr))
            case atStart => exact ⟨0, rfl, ⟨⟨Nat.zero_le _, by omega⟩⟩, ⟨(by (with_reducible repeat (first | refine blk_drewN ?_ _ | refine blk_drew ?_ | refine blk_alloc ?_ _)); exact D6.out)⟩, ⟨(by (with_reducible repeat (first | refine blk_drewN ?_ _ | refine blk_drew ?_ | refine blk_alloc ?_ _)); exact D8.out)⟩, ⟨(by (with_reducible repeat (first | refine blk_drewN ?_ _ | refine blk_drew ?_ | refine blk_alloc ?_ _)); exact D9.out)⟩, ⟨⟨_, (by (with_reducible repeat (first | refine blk_drewN ?_ _ | refine blk_drew ?_ | refine blk_alloc ?_ _)); exact DG.out)⟩⟩, ⟨Kd.R_mono (by (with_reducible repeat (first | apply Kd.R_alloc | apply Kd.R_drewN | apply Kd.R_drew)); exact DO.out) (fun _ _ => trivial)⟩, ⟨(by (with_reducible repeat (first | apply Kd.R_alloc | apply Kd.R_drewN | apply Kd.R_drew)); exact DT.out)⟩, ⟨(by (with_reducible repeat (first | apply Kd.R_alloc | apply Kd.R_drewN | apply Kd.R_drew)); exact DW.out)⟩, ⟨(by repeat (first | (with_reducible first | exact DB.out | apply below_alloc | apply pw_below_drewN | apply below_drew1) | exact DB.out))⟩⟩
            case round =>
             clear D6 D8 D9 DG DO DT DW DB DS
             obtain ⟨j, rfl, HJ, D6, D8, D9, DGe, DO, DT, DW, DB⟩ := hrel
             obtain ⟨cg, hcg⟩ := DGe.out
             have DG := Aside0.mk hcg
             clear hcg
             have hj := HJ.out
             by_cases hlt : j < W.length
             ·obtain ⟨iw, hi, hilw⟩ := HNW.out (rd W (j : Int)) (by rw [show rd W (j : Int) = W[j] by simp [rd, List.getD_eq_getElem?_getD, hlt]]; exact List.getElem_mem hlt)
              have htk : W.take (j + 1) = W.take j ++ [(iw : Int)] := by rw [List.take_succ_eq_append_getElem hlt, ← hi]; simp [rd, List.getD_eq_getElem?_getD, hlt]
              obtain ⟨adW, eW, hxW⟩ := Kd.at_int (Kd.R_reads' DW.out).2.2 (j : Int) (by omega) (by omega)
              cases eW
              rw [hi, Int.toNat_natCast] at hxW
              obtain ⟨k1, k2⟩ := Tk.decs_in (W.take j) HIT.out.1 (by omega) (fun k hk => by rw [HIT.out.2]; exact HNW.out k (List.mem_of_mem_take hk))
              rw [List.length_take] at k1
              rw [HIT.out.2] at k2
              have hil0w : iw < l0.length := by rw [← HN.out]; exact hilw
              have hb1 := k1 iw (by rw [k2]; exact hilw)
              obtain ⟨hx0, hx1, hx2, hy0, hy1, hy2⟩ := Tk.cell DT.out iw hil0w
              obtain ⟨p0, p1, p2⟩ := Tk.put DT.out iw hil0w
              have P1 := Aside0.mk p1
              have HTK := Aside0.mk htk
              have h9 := (blk_cell D9.out 0).trans rfl
              clear p0 p1 p2 k1 k2 htk hi
              have HFT := Aside0.mk (rfl : (W.take j ++ [(iw : Int)]).foldl Tk.dec1 (ts1) = (W.take j ++ [(iw : Int)]).foldl Tk.dec1 (ts1))
              rw [List.foldl_append] at HFT
              have hfd : List.foldl Tk.dec1 (List.foldl Tk.dec1 (ts1) (W.take j)) [(iw : Int)] = (List.foldl Tk.dec1 (ts1) (W.take j)).set iw ⟨((List.foldl Tk.dec1 (ts1) (W.take j)).getD iw z50).f0, ((List.foldl Tk.dec1 (ts1) (W.take j)).getD iw z50).f1 - 1, ((List.foldl Tk.dec1 (ts1) (W.take j)).getD iw z50).f2⟩ := rfl
              have HFD := Aside0.mk hfd
              clear hfd HFT
              generalize hxx : (List.foldl Tk.dec1 (ts1) (W.take j)).getD iw z50 = x at hx0 hx1 hx2 hb1 P1 HFD
              clear hxx
              have e1 : wrap64 (x.f1 - 1) = x.f1 - 1 := by unfold wrap64; omega
              have e2 : IntKind.i64.wrap (x.f1 - 1) = x.f1 - 1 := by rw [IntKind.wrap_i64]; omega
              have q5 : decide ((j : Int) < (W.length : Int)) = true := decide_eq_true (by omega)
              have q6 : (j < W.length) = True := eq_true hlt
              have q7 : (iw < l0.length) = True := eq_true hil0w
              clear hx0 hx2 hy0 hy2 hb1
              go_wp2_with fail
              go_roundg (W.length - (j + 1))
              case measure => omega
              case rel => exact ⟨j + 1, by go_num, ⟨⟨by omega, by omega⟩⟩, ⟨blk_far D6.out (p := ⟨g, iw * 3 + 1, none⟩) NE6g.out _⟩, ⟨blk_far D8.out (p := ⟨g, iw * 3 + 1, none⟩) NE8g.out _⟩, ⟨blk_far D9.out (p := ⟨g, iw * 3 + 1, none⟩) NE9g.out _⟩, ⟨⟨_, blk_set DG.out (iw * 3 + 1) _⟩⟩, ⟨Kd.R_set DO.out DG.out (by decide) (iw * 3 + 1) _⟩, ⟨by rw [HTK.out, List.foldl_append, HFD.out]; exact (P1.out (x.f1 - 1)).1⟩, ⟨Kd.R_set DW.out DG.out (by decide) (iw * 3 + 1) _⟩, ⟨below_set DB.out GEg.out⟩⟩
             ·have hje : j = W.length := by omega
              subst hje
              rw [List.take_length] at DT
              have q5 : decide ((W.length : Int) < (W.length : Int)) = false := decide_eq_false (by omega)
              have q6 : (W.length < W.length) = False := eq_false (by omega)
              have hslot : Tk.slot s = ⟨W.foldl Tk.dec1 (ts1), s.order, s.hits + 1, s.slots + 1, ds1⟩ := by rw [HSLOT.out, HMID.out]
              have HSL2 := Aside0.mk hslot
              clear hslot
              go_wp2_with fail
              go_roundg (a2 - (s.slots + 1)).toNat
              case measure => omega
              case rel => exact ⟨⟨W.foldl Tk.dec1 (ts1), s.order, s.hits + 1, s.slots + 1, ds1⟩, Ad, cd, (.slice Ao s.order.length co), rfl, HDA, HDD, ⟨by have h := HSV.out.1; rw [HSL2.out] at h; exact h⟩, ⟨Nat.le_refl _⟩, ⟨by have h := HRS.out; rw [HSL2.out] at h; exact h.trans HRUN.out⟩, ⟨by have h := HSV.out.2.1; rw [HSL2.out] at h; exact h.trans HN.out⟩, ⟨by show s.slots + 1 ≤ a2; omega⟩, D6, D8, D9, DO, DT, DB⟩
         ·have q4 : decide ((S.length : Int) > 1) = false := decide_eq_false (by omega)
          have q4' : decide (1 < S.length) = false := decide_eq_false cS2
          rw [if_neg cS1, if_neg cS2] at HMID
          go_wp2_with fail
          have HIT := Aside0.mk (show Tk.InT (20 * s.slots + 6) (s.ts) ∧ (s.ts).length = s.ts.length from by have h := HMIN.out; rw [HMID.out] at h; exact ⟨h.1, h.2.1⟩)
          go_loopg [148] W.length (fun kq v148 wr => ∃ j : Nat, v148 = .int .i64 (j : Int) ∧ Aside0 (j ≤ W.length ∧ W.length - j ≤ kq) ∧ Aside0 (wr.heap[g6]? = some (.cells #[.slice none 0 0, .int .i64 0, .int .i64 0, .bool false] 28 (0, 0))) ∧ Aside0 (wr.heap[g8]? = some (.cells #[(.slice Ao s.order.length co), .int .i64 (s.hits), .int .i64 (s.slots + 1), .bool false] 28 (0, 0))) ∧ Aside0 (wr.heap[g9]? = some (.cells #[.slice (some ⟨g, 0, none⟩) l0.length ct] 47 (0, 0))) ∧ Aside0 (∃ cs, wr.heap[g]? = some (.cells cs Tk.te (0, 0))) ∧ Aside0 (Kd.R (Kd.int .i64) 3 wr w.heap.size (fun _ => True) (.slice Ao s.order.length co) (s.order)) ∧ Aside0 (Kd.R Tk.K Tk.te wr w.heap.size (fun _ => True) (.slice (some ⟨g, 0, none⟩) l0.length ct) ((W.take j).foldl Tk.dec1 (s.ts))) ∧ Aside0 (Kd.R (Kd.int .i64) 3 wr w9.heap.size (fun k_ => w9.heap.size ≤ k_) (.slice A12 W.length c12) W) ∧ Aside0 (Below w.heap.size w wr))
          case atStart => exact ⟨0, rfl, ⟨⟨Nat.zero_le _, by omega⟩⟩, ⟨(by (with_reducible repeat (first | refine blk_drewN ?_ _ | refine blk_drew ?_ | refine blk_alloc ?_ _)); exact D6.out)⟩, ⟨(by (with_reducible repeat (first | refine blk_drewN ?_ _ | refine blk_drew ?_ | refine blk_alloc ?_ _)); exact D8.out)⟩, ⟨(by (with_reducible repeat (first | refine blk_drewN ?_ _ | refine blk_drew ?_ | refine blk_alloc ?_ _)); exact D9.out)⟩, ⟨⟨_, (by (with_reducible repeat (first | refine blk_drewN ?_ _ | refine blk_drew ?_ | refine blk_alloc ?_ _)); exact DG.out)⟩⟩, ⟨Kd.R_mono (by (with_reducible repeat (first | apply Kd.R_alloc | apply Kd.R_drewN | apply Kd.R_drew)); exact DO.out) (fun _ _ => trivial)⟩, ⟨(by (with_reducible repeat (first | apply Kd.R_alloc | apply Kd.R_drewN | apply Kd.R_drew)); exact DT.out)⟩, ⟨(by (with_reducible repeat (first | apply Kd.R_alloc | apply Kd.R_drewN | apply Kd.R_drew)); exact DW.out)⟩, ⟨(by repeat (first | (with_reducible first | exact DB.out | apply below_alloc | apply pw_below_drewN | apply below_drew1) | exact DB.out))⟩⟩
          case round =>
           clear D6 D8 D9 DG DO DT DW DB DS
           obtain ⟨j, rfl, HJ, D6, D8, D9, DGe, DO, DT, DW, DB⟩ := hrel
           obtain ⟨cg, hcg⟩ := DGe.out
           have DG := Aside0.mk hcg
           clear hcg
           have hj := HJ.out
           by_cases hlt : j < W.length
           ·obtain ⟨iw, hi, hilw⟩ := HNW.out (rd W (j : Int)) (by rw [show rd W (j : Int) = W[j] by simp [rd, List.getD_eq_getElem?_getD, hlt]]; exact List.getElem_mem hlt)
            have htk : W.take (j + 1) = W.take j ++ [(iw : Int)] := by rw [List.take_succ_eq_append_getElem hlt, ← hi]; simp [rd, List.getD_eq_getElem?_getD, hlt]
            obtain ⟨adW, eW, hxW⟩ := Kd.at_int (Kd.R_reads' DW.out).2.2 (j : Int) (by omega) (by omega)
            cases eW
            rw [hi, Int.toNat_natCast] at hxW
            obtain ⟨k1, k2⟩ := Tk.decs_in (W.take j) HIT.out.1 (by omega) (fun k hk => by rw [HIT.out.2]; exact HNW.out k (List.mem_of_mem_take hk))
            rw [List.length_take] at k1
            rw [HIT.out.2] at k2
            have hil0w : iw < l0.length := by rw [← HN.out]; exact hilw
            have hb1 := k1 iw (by rw [k2]; exact hilw)
            obtain ⟨hx0, hx1, hx2, hy0, hy1, hy2⟩ := Tk.cell DT.out iw hil0w
            obtain ⟨p0, p1, p2⟩ := Tk.put DT.out iw hil0w
            have P1 := Aside0.mk p1
            have HTK := Aside0.mk htk
            have h9 := (blk_cell D9.out 0).trans rfl
            clear p0 p1 p2 k1 k2 htk hi
            have HFT := Aside0.mk (rfl : (W.take j ++ [(iw : Int)]).foldl Tk.dec1 (s.ts) = (W.take j ++ [(iw : Int)]).foldl Tk.dec1 (s.ts))
            rw [List.foldl_append] at HFT
            have hfd : List.foldl Tk.dec1 (List.foldl Tk.dec1 (s.ts) (W.take j)) [(iw : Int)] = (List.foldl Tk.dec1 (s.ts) (W.take j)).set iw ⟨((List.foldl Tk.dec1 (s.ts) (W.take j)).getD iw z50).f0, ((List.foldl Tk.dec1 (s.ts) (W.take j)).getD iw z50).f1 - 1, ((List.foldl Tk.dec1 (s.ts) (W.take j)).getD iw z50).f2⟩ := rfl
            have HFD := Aside0.mk hfd
            clear hfd HFT
            generalize hxx : (List.foldl Tk.dec1 (s.ts) (W.take j)).getD iw z50 = x at hx0 hx1 hx2 hb1 P1 HFD
            clear hxx
            have e1 : wrap64 (x.f1 - 1) = x.f1 - 1 := by unfold wrap64; omega
            have e2 : IntKind.i64.wrap (x.f1 - 1) = x.f1 - 1 := by rw [IntKind.wrap_i64]; omega
            have q5 : decide ((j : Int) < (W.length : Int)) = true := decide_eq_true (by omega)
            have q6 : (j < W.length) = True := eq_true hlt
            have q7 : (iw < l0.length) = True := eq_true hil0w
            clear hx0 hx2 hy0 hy2 hb1
            go_wp2_with fail
            go_roundg (W.length - (j + 1))
            case measure => omega
            case rel => exact ⟨j + 1, by go_num, ⟨⟨by omega, by omega⟩⟩, ⟨blk_far D6.out (p := ⟨g, iw * 3 + 1, none⟩) NE6g.out _⟩, ⟨blk_far D8.out (p := ⟨g, iw * 3 + 1, none⟩) NE8g.out _⟩, ⟨blk_far D9.out (p := ⟨g, iw * 3 + 1, none⟩) NE9g.out _⟩, ⟨⟨_, blk_set DG.out (iw * 3 + 1) _⟩⟩, ⟨Kd.R_set DO.out DG.out (by decide) (iw * 3 + 1) _⟩, ⟨by rw [HTK.out, List.foldl_append, HFD.out]; exact (P1.out (x.f1 - 1)).1⟩, ⟨Kd.R_set DW.out DG.out (by decide) (iw * 3 + 1) _⟩, ⟨below_set DB.out GEg.out⟩⟩
           ·have hje : j = W.length := by omega
            subst hje
            rw [List.take_length] at DT
            have q5 : decide ((W.length : Int) < (W.length : Int)) = false := decide_eq_false (by omega)
            have q6 : (W.length < W.length) = False := eq_false (by omega)
            have hslot : Tk.slot s = ⟨W.foldl Tk.dec1 (s.ts), s.order, s.hits, s.slots + 1, s.draws⟩ := by rw [HSLOT.out, HMID.out]
            have HSL2 := Aside0.mk hslot
            clear hslot
            go_wp2_with fail
            go_roundg (a2 - (s.slots + 1)).toNat
            case measure => omega
            case rel => exact ⟨⟨W.foldl Tk.dec1 (s.ts), s.order, s.hits, s.slots + 1, s.draws⟩, A1', c1', (.slice Ao s.order.length co), rfl, HD, HDC, ⟨by have h := HSV.out.1; rw [HSL2.out] at h; exact h⟩, ⟨Nat.le_refl _⟩, ⟨by have h := HRS.out; rw [HSL2.out] at h; exact h.trans HRUN.out⟩, ⟨by have h := HSV.out.2.1; rw [HSL2.out] at h; exact h.trans HN.out⟩, ⟨by show s.slots + 1 ≤ a2; omega⟩, D6, D8, D9, DO, DT, DB⟩

-- NOT PRINTED: function 43 (spec_l9Talk_draw)

-- NOT PRINTED: function 37 (spec_l9Talk_slot)

end Go.Proofs.Ytnppflmjlnfhpaa.PA
