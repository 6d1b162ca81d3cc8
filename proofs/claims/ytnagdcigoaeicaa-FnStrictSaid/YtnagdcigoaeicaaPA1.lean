-- Laid by this session's own program (pr.py) over the translation; Lean checks it.
import Derived.Test.YtnagdcigoaeicaaPA0
namespace Go.Proofs.Ytnagdcigoaeicaa.PA
open Go.RowKit Go.Proofs.YtnagdcigoaeicaaW.PrintWords Go.Proofs.YtnagdcigoaeicaaW.PrintLast Go.Proofs.YtnagdcigoaeicaaW.PrintMore
attribute [local go_sem] max2_int min2_int max_two min_two max_three min_three max_four min_four   -- for this text's walks alone
set_option linter.unusedVariables false
set_option linter.unusedSimpArgs false

/-! ### impl_within: function 33 -/
def impl_within.f (a0 : Int) (a1 : Int) (a2 : Int) : Option (Bool) := if a1 ≤ a0 then (some (decide (a0 ≤ a2))) else (some false)
set_option maxHeartbeats 8000000 in
set_option maxRecDepth 100000 in
theorem impl_within.calls (a0 : Int) (a1 : Int) (a2 : Int) (r : Bool) (w : World) (h : impl_within.f a0 a1 a2 = some r) :
  Calls Try.prog 33 #[.int .i64 a0, .int .i64 a1, .int .i64 a2] w fun e w' => e = .returned (.bool r) ∧ Drawn0 w w' := by
 have H : (if a1 ≤ a0 then (some (decide (a0 ≤ a2))) else (some false)) = some r := h
 clear h
 by_cases c4 : a1 ≤ a0
 ·rw [if_pos c4] at H
  have c4b0 : decide (a1 ≤ a0) = true := decide_eq_true c4
  clear c4
  obtain rfl := Option.some.inj H
  go_enter Try.func33, Try.ntmps33
  go_wp2
  go_ret
  exact ⟨by first | rfl | (simp; done) | (simp [*]; done), by repeat (first | exact Drawn0.refl _ | apply Drawn0.step)⟩
 ·rw [if_neg c4] at H
  have c4b0 : decide (a1 ≤ a0) = false := decide_eq_false c4
  clear c4
  obtain rfl := Option.some.inj H
  go_enter Try.func33, Try.ntmps33
  go_wp2
  go_ret
  exact ⟨by first | rfl | (simp; done) | (simp [*]; done), by repeat (first | exact Drawn0.refl _ | apply Drawn0.step)⟩

-- NOT PRINTED: function 52 (slices_IndexFunc_int_int)

-- NOT PRINTED: function 49 (slices_ContainsFunc_int_int)

-- NOT PRINTED: function 45 (impl_all_int)

/-! ### impl_weightsOk: function 38 -/
def impl_weightsOk.f (l0 : List Int) : Option (Bool) := some (decide (1 ≤ (l0.length : Int) ∧ (l0.length : Int) ≤ 4) && l0.all (fun x => decide (1 ≤ x ∧ x ≤ 9)))
def impl_weightsOk.inB (a b c : Int) : Bool := decide (b ≤ a ∧ a ≤ c)
theorem impl_weightsOk.within (a b c : Int) (w : World) : Calls Try.prog 33 #[.int .i64 a, .int .i64 b, .int .i64 c] w fun e w' => e = .returned (.bool (impl_weightsOk.inB a b c)) ∧ Drawn0 w w' :=
 impl_within.calls a b c _ w (by unfold impl_within.f impl_weightsOk.inB; by_cases h : b ≤ a <;> simp [h])
set_option maxHeartbeats 4000000 in
theorem impl_weightsOk.pred (w : World) : H.PredInt 46 #[] (fun x => impl_weightsOk.inB x 1 9) w := by
 intro W x hb
 clear hb
 show Calls Try.prog 46 #[.int .i64 x] W fun e w' => e = .returned (.bool (impl_weightsOk.inB x 1 9)) ∧ Below W.heap.size W w'
 have HBW := Aside0.mk (Below.refl W.heap.size W)
 generalize hq : impl_weightsOk.inB x 1 9 = b
 go_enter Try.func46, Try.ntmps46
 go_wp2_with fail
 refine (impl_weightsOk.within _ _ _ _).mono ?_
 rintro e w' ⟨rfl, ⟨nd, rfl⟩⟩
 go_wp2_with fail
 go_ret
 exact ⟨rfl, by repeat (first | (with_reducible first | exact HBW.out | apply below_alloc | apply pw_below_drewN | apply below_drew1) | exact HBW.out)⟩
set_option maxHeartbeats 4000000 in
theorem impl_weightsOk.calls (A0 : Option Addr) (c0 : Nat) (l0 : List Int) (r : Bool) (w : World) (hr0 : Kd.C (Kd.int .i64) w A0 l0.length l0) (hc0 : l0.length ≤ c0) (h : impl_weightsOk.f l0 = some r) :
  Calls Try.prog 38 #[.slice A0 l0.length c0] w fun e w' => e = .returned (.bool r) ∧ Below w.heap.size w w' := by
 have e1 : ∀ args w, (callFunc 46 args).run Try.prog w = .ok (.enter 46 args) w := enters_of Try.func46 (by kernel_rfl) rfl
 unfold impl_weightsOk.f at h
 obtain rfl := Option.some.inj h
 clear h
 have HB1 := Aside0.mk (Below.refl w.heap.size w)
 by_cases p1 : 1 ≤ (l0.length : Int) ∧ (l0.length : Int) ≤ 4
 ·have q0 : impl_weightsOk.inB (l0.length : Int) 1 4 = true := decide_eq_true p1
  rw [show decide (1 ≤ (l0.length : Int) ∧ (l0.length : Int) ≤ 4) = true from q0, Bool.true_and]
  have hall := fun nd => H.all_int _ 46 #[] e1 A0 c0 l0 (w.drewN nd) (impl_weightsOk.pred _) (Kd.C_drewN hr0 nd)
  have HALL := Aside0.mk hall
  clear hall e1 hr0 hc0
  have HX := Aside0.mk (show (l0.all fun x => impl_weightsOk.inB x 1 9) = (l0.all (fun x => decide (1 ≤ x ∧ x ≤ 9))) from rfl)
  generalize (l0.all (fun x => decide (1 ≤ x ∧ x ≤ 9))) = b at HX ⊢
  rw [HX.out] at HALL
  clear HX p1
  go_enter Try.func38, Try.ntmps38
  go_wp2_with (first | (go_at_call 33; refine (impl_weightsOk.within _ _ _ _).mono ?_; rintro e w' ⟨rfl, ⟨nd, rfl⟩⟩))
  refine (HALL.out _).mono ?_
  clear HALL
  rintro e w' ⟨rfl, hb⟩
  have HB2 := Aside0.mk (below_then (pw_below_drewN HB1.out _) (by simp) hb)
  clear hb
  go_wp2_with fail
  go_ret
  exact ⟨rfl, by repeat (first | (with_reducible first | exact HB2.out | apply below_alloc | apply pw_below_drewN | apply below_drew1) | exact HB2.out)⟩
 ·have q0 : impl_weightsOk.inB (l0.length : Int) 1 4 = false := decide_eq_false p1
  rw [show decide (1 ≤ (l0.length : Int) ∧ (l0.length : Int) ≤ 4) = false from q0]
  clear hr0 hc0 p1
  go_enter Try.func38, Try.ntmps38
  go_wp2_with (first | (go_at_call 33; refine (impl_weightsOk.within _ _ _ _).mono ?_; rintro e w' ⟨rfl, ⟨nd, rfl⟩⟩))
  go_ret
  exact ⟨rfl, by repeat (first | (with_reducible first | exact HB1.out | apply below_alloc | apply pw_below_drewN | apply below_drew1) | exact HB1.out)⟩

-- NOT PRINTED: function 51 (impl_Job_51)

-- NOT PRINTED: function 47 (impl_Job_47)

-- NOT PRINTED: function 39 (impl_Job_39)

/-! ### impl_JobsValid: function 26 -/
def impl_JobsValid.f (l0 : List Int) (l1 : List (S30)) : Option (Bool) := some ((decide (1 ≤ (l0.length : Int) ∧ (l0.length : Int) ≤ 4) && l0.all (fun x => decide (1 ≤ x ∧ x ≤ 9))) && (decide ((l1.length : Int) ≤ 60) && l1.all (fun x => decide (0 ≤ x.f0 ∧ x.f0 ≤ (l0.length : Int) - 1) && decide (1 ≤ x.f1 ∧ x.f1 ≤ 9))))
def impl_JobsValid.SomeIdx (b : Bool) (w : World) (e : Ending) (w' : World) : Prop := ∃ z : Int, e = .returned (.int .i64 z) ∧ decide (0 ≤ z) = b ∧ Below w.heap.size w w'
def impl_JobsValid.Pred (g : Nat) (lb : Array Value) (p : S30 → Bool) (w : World) : Prop :=
 ∀ (W : World) (x : S30), Below w.heap.size w W → Calls Try.prog g (#[.agg #[.int .i64 x.f0, .int .i64 x.f1]] ++ lb) W fun e w' => e = .returned (.bool (p x)) ∧ Below W.heap.size W w'
theorem impl_JobsValid.Pred.later {g : Nat} {lb : Array Value} {p : S30 → Bool} {w W : World} (h : impl_JobsValid.Pred g lb p w) (hb : Below w.heap.size w W) : impl_JobsValid.Pred g lb p W :=
 fun W' x hb' => h W' x (hb.trans (hb'.mono hb.size))
theorem impl_JobsValid.rd_mem (l : List S30) (i : Int) (h0 : 0 ≤ i) (h : i < (l.length : Int)) : rd_T30 l i ∈ l := by
 obtain ⟨n, rfl⟩ := Int.eq_ofNat_of_zero_le h0
 have hn : n < l.length := by omega
 have e : rd_T30 l (n : Int) = l[n] := by simp [rd_T30, List.getD_eq_getElem?_getD, hn]
 rw [e]
 exact List.getElem_mem _
theorem impl_JobsValid.take_any {l : List S30} {p : S30 → Bool} {x : Int} (h0 : 0 ≤ x) (h1 : x < (l.length : Int)) : (l.take (x + 1).toNat).any p = ((l.take x.toNat).any p || p (rd_T30 l x)) := by
 obtain ⟨n, rfl⟩ := Int.eq_ofNat_of_zero_le h0
 have hn : n < l.length := by omega
 have e : ((n : Int) + 1).toNat = n + 1 := by omega
 have e2 : rd_T30 l (n : Int) = l[n] := by simp [rd_T30, List.getD_eq_getElem?_getD, hn]
 rw [e, e2, Int.toNat_natCast, List.take_succ_eq_append_getElem hn, List.any_append]
 simp
set_option maxHeartbeats 4000000 in
theorem impl_JobsValid.idx (p : S30 → Bool) (g : Nat) (lb : Array Value) (eg : ∀ args w, (callFunc g args).run Try.prog w = .ok (.enter g args) w) (A : Option Addr) (c : Nat) (l : List S30) (w : World)
  (hp : impl_JobsValid.Pred g lb p w) (hr : Kd.C k30 w A l.length l) :
  Calls Try.prog 51 #[.slice A l.length c, .func (.func g) #[] lb] w (impl_JobsValid.SomeIdx (l.any p) w) := by
 have hlen : l.length ≤ 9223372036854775807 := hr.2.1
 have HR := Aside0.mk hr
 have HP := Aside0.mk hp
 clear hr hp
 have HB := Aside0.mk (Below.refl w.heap.size w)
 go_enter Try.func51, Try.ntmps51
 go_wp2
 go_loopg [5, 8] l.length (fun gg _ s8 wr => ∃ x : Int, s8 = .int .i64 x ∧ Aside0 (0 ≤ x ∧ x ≤ (l.length : Int) ∧ (l.length : Int) - x ≤ gg) ∧ Aside0 (Below w.heap.size w wr) ∧ Aside0 ((l.take x.toNat).any p = false))
 case atStart => exact ⟨0, rfl, ⟨⟨by omega, by omega, by omega⟩⟩, HB, ⟨by simp⟩⟩
 case round =>
  clear HB
  obtain ⟨x, rfl, HX, HB, HA⟩ := hrel
  have hx0 := HX.out.1
  have hx1 := HX.out.2.1
  by_cases hlt : x < (l.length : Int)
  ·have c0 : decide (0 ≤ x) = true := decide_eq_true hx0
   have c1 : decide (x < (l.length : Int)) = true := decide_eq_true hlt
   obtain ⟨ad, e0, hk0, hk1⟩ := at_T30 (Kd.C_below HR.out HB.out) x hx0 hlt
   cases e0
   have hcall := HP.out _ (rd_T30 l x) HB.out
   have HT := Aside0.mk (impl_JobsValid.take_any (p := p) hx0 hlt)
   have HM := Aside0.mk (impl_JobsValid.rd_mem l x hx0 hlt)
   generalize rd_T30 l x = y at hk0 hk1 hcall HT HM
   cases hq : p y with
   | true =>
    rw [hq] at hcall
    have HQ := Aside0.mk hq
    clear hq
    go_wp2_with fail
    refine hcall.mono ?_
    clear hcall
    rintro e w' ⟨rfl, hb'⟩
    go_wp2_with fail
    go_ret
    refine ⟨x, rfl, ?_, (HB.out).trans (hb'.mono HB.out.size)⟩
    rw [c0]
    symm
    rw [List.any_eq_true]
    exact ⟨y, HM.out, HQ.out⟩
   | false =>
    rw [hq] at hcall
    have HQ := Aside0.mk hq
    clear hq
    go_wp2_with fail
    refine hcall.mono ?_
    clear hcall
    rintro e w' ⟨rfl, hb'⟩
    go_wp2_with fail
    go_roundg ((l.length : Int) - (x + 1)).toNat
    case measure => have := HX.out; omega
    case rel =>
     refine ⟨x + 1, by go_num, ⟨⟨by omega, by omega, by omega⟩⟩, ⟨(HB.out).trans (hb'.mono HB.out.size)⟩, ⟨?_⟩⟩
     rw [HT.out, HA.out, HQ.out]; rfl
  ·have c1 : decide (x < (l.length : Int)) = false := decide_eq_false hlt
   go_wp2
   go_ret
   refine ⟨-1, rfl, ?_, HB.out⟩
   have : x.toNat = l.length := by omega
   have h := HA.out
   rw [this, List.take_length] at h
   rw [h]; rfl
set_option maxHeartbeats 4000000 in
theorem impl_JobsValid.cont (p : S30 → Bool) (g : Nat) (lb : Array Value) (eg : ∀ args w, (callFunc g args).run Try.prog w = .ok (.enter g args) w) (A : Option Addr) (c : Nat) (l : List S30) (w : World)
  (hp : impl_JobsValid.Pred g lb p w) (hr : Kd.C k30 w A l.length l) :
  Calls Try.prog 47 #[.slice A l.length c, .func (.func g) #[] lb] w fun e w' => e = .returned (.bool (l.any p)) ∧ Below w.heap.size w w' := by
 have hcall := impl_JobsValid.idx p g lb eg A c l w hp hr
 clear hp hr
 generalize l.any p = b at hcall ⊢
 go_enter Try.func47, Try.ntmps47
 go_wp2_with fail
 refine hcall.mono ?_
 clear hcall eg
 rintro e w' ⟨z, rfl, hz, hb⟩
 have HZ := Aside0.mk hz
 have HBB := Aside0.mk hb
 clear hz hb
 go_wp2_with fail
 go_ret
 exact ⟨by simp; exact HZ.out, HBB.out⟩
set_option maxHeartbeats 4000000 in
theorem impl_JobsValid.not (p : S30 → Bool) (g : Nat) (lb : Array Value) (eg : ∀ args w, (callFunc g args).run Try.prog w = .ok (.enter g args) w) (B : Nat) (w : World)
  (hp : impl_JobsValid.Pred g lb p w) (hB : B < w.heap.size) (hc : w.cell? ⟨B, 0, none⟩ = some (.func (.func g) #[] lb)) :
  impl_JobsValid.Pred 48 #[.pointer (some ⟨B, 0, none⟩)] (fun x => !p x) w := by
 intro W x hb
 have hcall := fun W' (h : Below W.heap.size W W') => hp W' x (hb.trans (h.mono hb.size))
 have hc' : W.cell? ⟨B, 0, none⟩ = some (.func (.func g) #[] lb) := (hb.cell (p := ⟨B, 0, none⟩) hB).trans hc
 have hBW : B < W.heap.size := Nat.lt_of_lt_of_le hB hb.size
 have hc2 : ∀ o, (W.alloc o).cell? ⟨B, 0, none⟩ = some (.func (.func g) #[] lb) := fun o => by rw [World.cell?_alloc_past _ _ _ hBW]; exact hc'
 clear hp hc hb hB
 show Calls Try.prog 48 #[.agg #[.int .i64 x.f0, .int .i64 x.f1], .pointer (some ⟨B, 0, none⟩)] W fun e w' => e = .returned (.bool (!p x)) ∧ Below W.heap.size W w'
 obtain ⟨y, hy⟩ : ∃ y : Value, y = .agg #[.int .i64 x.f0, .int .i64 x.f1] := ⟨_, rfl⟩
 generalize p x = b at hcall ⊢
 clear hy
 have HC := Aside0.mk hcall
 clear hcall
 go_enter Try.func48, Try.ntmps48
 go_wp2_with fail
 refine (HC.out _ (below_alloc (Below.refl _ _) _)).mono ?_
 clear HC eg
 rintro e w' ⟨rfl, hb⟩
 have HBB := Aside0.mk (below_then (below_alloc (Below.refl W.heap.size W) _) (by simp) hb)
 clear hb
 go_wp2_with fail
 go_ret
 exact ⟨rfl, HBB.out⟩
set_option maxHeartbeats 4000000 in
theorem impl_JobsValid.all (p : S30 → Bool) (g : Nat) (lb : Array Value) (eg : ∀ args w, (callFunc g args).run Try.prog w = .ok (.enter g args) w) (A : Option Addr) (c : Nat) (l : List S30) (w : World)
  (hp : impl_JobsValid.Pred g lb p w) (hr : Kd.C k30 w A l.length l) :
  Calls Try.prog 39 #[.slice A l.length c, .func (.func g) #[] lb] w fun e w' => e = .returned (.bool (l.all p)) ∧ Below w.heap.size w w' := by
 have hb1 : Below w.heap.size w (w.alloc (.cells #[.func (.func g) #[] lb] 61)) := below_alloc (Below.refl _ _) _
 have e1 : ∀ args w, (callFunc 48 args).run Try.prog w = .ok (.enter 48 args) w := enters_of Try.func48 (by kernel_rfl) rfl
 have hcall := impl_JobsValid.cont (fun x => !p x) 48 #[.pointer (some ⟨w.heap.size, 0, none⟩)] e1 A c l (w.alloc (.cells #[.func (.func g) #[] lb] 61))
  (impl_JobsValid.not p g lb eg w.heap.size _ (hp.later hb1) (by simp) (by simp)) (Kd.C_below hr hb1)
 have e2 : (l.any fun x => !p x) = !(l.all p) := by rw [List.not_all_eq_any_not]
 rw [e2] at hcall
 have HB1 := Aside0.mk hb1
 clear hp hr e1 e2 hb1
 generalize l.all p = b at hcall ⊢
 go_enter Try.func39, Try.ntmps39
 go_wp2_with fail
 refine hcall.mono ?_
 clear hcall eg
 rintro e w' ⟨rfl, hb⟩
 have HBB := Aside0.mk hb
 clear hb
 go_wp2_with fail
 go_ret
 exact ⟨by simp, HB1.out.trans (HBB.out.mono HB1.out.size)⟩
def impl_JobsValid.inB (a b c : Int) : Bool := decide (b ≤ a ∧ a ≤ c)
theorem impl_JobsValid.within (a b c : Int) (w : World) : Calls Try.prog 33 #[.int .i64 a, .int .i64 b, .int .i64 c] w fun e w' => e = .returned (.bool (impl_JobsValid.inB a b c)) ∧ Drawn0 w w' :=
 impl_within.calls a b c _ w (by unfold impl_within.f impl_JobsValid.inB; by_cases h : b ≤ a <;> simp [h])
set_option maxHeartbeats 4000000 in
theorem impl_JobsValid.pred (n : Nat) (h0 : 1 ≤ n) (h1 : n ≤ 4) (A0 : Option Addr) (c0 B : Nat) (w : World) (hB : B < w.heap.size) (hc : w.cell? ⟨B, 0, none⟩ = some (.slice A0 n c0)) :
  impl_JobsValid.Pred 40 #[.pointer (some ⟨B, 0, none⟩)] (fun x => impl_JobsValid.inB x.f0 0 ((n : Int) - 1) && impl_JobsValid.inB x.f1 1 9) w := by
 intro W x hb
 have hc' : W.cell? ⟨B, 0, none⟩ = some (.slice A0 n c0) := (hb.cell (p := ⟨B, 0, none⟩) hB).trans hc
 have hBW : B < W.heap.size := Nat.lt_of_lt_of_le hB hb.size
 have hc2 : ∀ o, (W.alloc o).cell? ⟨B, 0, none⟩ = some (.slice A0 n c0) := fun o => by rw [World.cell?_alloc_past _ _ _ hBW]; exact hc'
 clear hc hb hB
 obtain ⟨x0, x1⟩ := x
 show Calls Try.prog 40 #[.agg #[.int .i64 x0, .int .i64 x1], .pointer (some ⟨B, 0, none⟩)] W fun e w' => e = .returned (.bool (impl_JobsValid.inB x0 0 ((n : Int) - 1) && impl_JobsValid.inB x1 1 9)) ∧ Below W.heap.size W w'
 have HBW := Aside0.mk (below_alloc (Below.refl W.heap.size W) (.cells #[.int .i64 x0, .int .i64 x1] 30))
 cases q0 : impl_JobsValid.inB x0 0 ((n : Int) - 1) with
 | false =>
  go_enter Try.func40, Try.ntmps40
  go_wp2_with (first | (go_at_call 33; refine (impl_JobsValid.within _ _ _ _).mono ?_; rintro e w' ⟨rfl, ⟨nd, rfl⟩⟩))
  go_ret
  exact ⟨rfl, by repeat (first | (with_reducible first | exact HBW.out | apply below_alloc | apply pw_below_drewN | apply below_drew1) | exact HBW.out)⟩
 | true =>
  generalize q4 : impl_JobsValid.inB x1 1 9 = b2
  go_enter Try.func40, Try.ntmps40
  go_wp2_with (first | (go_at_call 33; refine (impl_JobsValid.within _ _ _ _).mono ?_; rintro e w' ⟨rfl, ⟨nd, rfl⟩⟩))
  go_ret
  exact ⟨rfl, by repeat (first | (with_reducible first | exact HBW.out | apply below_alloc | apply pw_below_drewN | apply below_drew1) | exact HBW.out)⟩
set_option maxHeartbeats 4000000 in
theorem impl_JobsValid.calls (A0 : Option Addr) (c0 : Nat) (l0 : List Int) (A1 : Option Addr) (c1 : Nat) (l1 : List (S30)) (r : Bool) (w : World) (hr0 : Kd.C (Kd.int .i64) w A0 l0.length l0) (hc0 : l0.length ≤ c0) (hr1 : Kd.C k30 w A1 l1.length l1) (hc1 : l1.length ≤ c1) (h : impl_JobsValid.f l0 l1 = some r) :
  Calls Try.prog 26 #[.slice A0 l0.length c0, .slice A1 l1.length c1] w fun e w' => e = .returned (.bool r) ∧ Below w.heap.size w w' := by
 have e1 : ∀ args w, (callFunc 40 args).run Try.prog w = .ok (.enter 40 args) w := enters_of Try.func40 (by kernel_rfl) rfl
 unfold impl_JobsValid.f at h
 obtain rfl := Option.some.inj h
 clear h
 have hb1 : Below w.heap.size w (w.alloc (.cells #[.slice A0 l0.length c0] 23)) := below_alloc (Below.refl _ _) _
 have HB1 := Aside0.mk hb1
 have HR0 := Aside0.mk hr0
 have HC0 := Aside0.mk hc0
 have HW := Aside0.mk (show impl_weightsOk.f l0 = some _ from rfl)
 generalize hq : (decide (1 ≤ (l0.length : Int) ∧ (l0.length : Int) ≤ 4) && l0.all (fun x => decide (1 ≤ x ∧ x ≤ 9))) = b at HW ⊢
 cases b with
 | false =>
  rw [Bool.false_and]
  clear hq hr0 hc0 hr1 hc1 hb1 e1
  go_enter Try.func26, Try.ntmps26
  go_wp2_with fail
  refine (impl_weightsOk.calls A0 c0 l0 false _ (by (with_reducible repeat (first | apply Kd.C_alloc | apply Kd.C_drewN | apply Kd.C_drew)); exact HR0.out) HC0.out HW.out).mono ?_
  rintro e w' ⟨rfl, hb⟩
  have HB2 := Aside0.mk (below_then (by repeat (first | (with_reducible first | exact HB1.out | apply below_alloc | apply pw_below_drewN | apply below_drew1) | exact HB1.out)) (by simp) hb)
  clear hb
  go_wp2_with fail
  go_ret
  exact ⟨rfl, by repeat (first | (with_reducible first | exact HB2.out | apply below_alloc | apply pw_below_drewN | apply below_drew1) | exact HB2.out)⟩
 | true =>
  rw [Bool.true_and]
  have hlen : 1 ≤ l0.length ∧ l0.length ≤ 4 := by
   rw [Bool.and_eq_true, decide_eq_true_eq] at hq
   omega
  clear hq
  by_cases p2 : (l1.length : Int) ≤ 60
  ·have c2 : decide ((l1.length : Int) ≤ 60) = true := decide_eq_true p2
   have c3 : l1.length ≤ 60 := by omega
   rw [c2, Bool.true_and]
   have hall : ∀ W : World, Below (w.alloc (.cells #[.slice A0 l0.length c0] 23)).heap.size (w.alloc (.cells #[.slice A0 l0.length c0] 23)) W → Calls Try.prog 39 #[.slice A1 l1.length c1, .func (.func 40) #[] #[.pointer (some ⟨w.heap.size, 0, none⟩)]] W fun e w' => e = .returned (.bool (l1.all (fun x => impl_JobsValid.inB x.f0 0 ((l0.length : Int) - 1) && impl_JobsValid.inB x.f1 1 9))) ∧ Below W.heap.size W w' := fun W hW =>
    impl_JobsValid.all _ 40 #[.pointer (some ⟨w.heap.size, 0, none⟩)] e1 A1 c1 l1 W (impl_JobsValid.pred l0.length hlen.1 hlen.2 A0 c0 w.heap.size W (Nat.lt_of_lt_of_le (by simp) hW.size) ((hW.cell (p := ⟨w.heap.size, 0, none⟩) (by simp)).trans (by simp))) (Kd.C_below (Kd.C_below hr1 hb1) hW)
   have HALL := Aside0.mk hall
   clear hall hb1 e1 hr1 hc1 hr0 hc0
   have HX := Aside0.mk (show (l1.all fun x => impl_JobsValid.inB x.f0 0 ((l0.length : Int) - 1) && impl_JobsValid.inB x.f1 1 9) = (l1.all (fun x => decide (0 ≤ x.f0 ∧ x.f0 ≤ (l0.length : Int) - 1) && decide (1 ≤ x.f1 ∧ x.f1 ≤ 9))) from rfl)
   generalize (l1.all (fun x => decide (0 ≤ x.f0 ∧ x.f0 ≤ (l0.length : Int) - 1) && decide (1 ≤ x.f1 ∧ x.f1 ≤ 9))) = b at HX ⊢
   rw [HX.out] at HALL
   clear HX p2
   go_enter Try.func26, Try.ntmps26
   go_wp2_with fail
   refine (impl_weightsOk.calls A0 c0 l0 true _ (by (with_reducible repeat (first | apply Kd.C_alloc | apply Kd.C_drewN | apply Kd.C_drew)); exact HR0.out) HC0.out HW.out).mono ?_
   rintro e w' ⟨rfl, hb⟩
   have HB0 := Aside0.mk (show Below (w.alloc (.cells #[.slice A0 l0.length c0] 23)).heap.size (w.alloc (.cells #[.slice A0 l0.length c0] 23)) w' from below_step (by repeat (first | exact Below.refl _ _ | apply pw_below_drewN | apply below_drew1)) hb)
   have HB2 := Aside0.mk (below_then (by repeat (first | (with_reducible first | exact HB1.out | apply below_alloc | apply pw_below_drewN | apply below_drew1) | exact HB1.out)) (by simp) hb)
   clear hb
   go_wp2_with fail
   refine (HALL.out _ (by repeat (first | (with_reducible first | exact HB0.out | apply pw_below_drewN | apply below_drew1) | exact HB0.out))).mono ?_
   clear HALL
   rintro e w' ⟨rfl, hb⟩
   have HB3 := Aside0.mk (below_step (by repeat (first | (with_reducible first | exact HB2.out | apply below_alloc | apply pw_below_drewN | apply below_drew1) | exact HB2.out)) hb)
   clear hb
   go_wp2_with fail
   go_ret
   exact ⟨rfl, by repeat (first | (with_reducible first | exact HB3.out | apply below_alloc | apply pw_below_drewN | apply below_drew1) | exact HB3.out)⟩
  ·have c2 : decide ((l1.length : Int) ≤ 60) = false := decide_eq_false p2
   have c3 : ¬ l1.length ≤ 60 := by omega
   rw [c2, Bool.false_and]
   clear hr0 hc0 hr1 hc1 hb1 e1
   go_enter Try.func26, Try.ntmps26
   go_wp2_with fail
   refine (impl_weightsOk.calls A0 c0 l0 true _ (by (with_reducible repeat (first | apply Kd.C_alloc | apply Kd.C_drewN | apply Kd.C_drew)); exact HR0.out) HC0.out HW.out).mono ?_
   rintro e w' ⟨rfl, hb⟩
   have HB2 := Aside0.mk (below_then (by repeat (first | (with_reducible first | exact HB1.out | apply below_alloc | apply pw_below_drewN | apply below_drew1) | exact HB1.out)) (by simp) hb)
   clear hb
   go_wp2_with fail
   go_ret
   exact ⟨rfl, by repeat (first | (with_reducible first | exact HB2.out | apply below_alloc | apply pw_below_drewN | apply below_drew1) | exact HB2.out)⟩

-- NOT PRINTED: function 44 (slices_Grow_int_int)

/-! ### spec_l1In: function 34 -/
def spec_l1In.f (a0 : Int) (a1 : Int) (a2 : Int) : Option (Bool) := if a0 ≥ a1 then (some (decide (a0 ≤ a2))) else (some false)
set_option maxHeartbeats 8000000 in
set_option maxRecDepth 100000 in
theorem spec_l1In.calls (a0 : Int) (a1 : Int) (a2 : Int) (r : Bool) (w : World) (h : spec_l1In.f a0 a1 a2 = some r) :
  Calls Try.prog 34 #[.int .i64 a0, .int .i64 a1, .int .i64 a2] w fun e w' => e = .returned (.bool r) ∧ Drawn0 w w' := by
 have H : (if a0 ≥ a1 then (some (decide (a0 ≤ a2))) else (some false)) = some r := h
 clear h
 by_cases c4 : a0 ≥ a1
 ·rw [if_pos c4] at H
  have c4b0 : decide (a1 ≤ a0) = true := decide_eq_true c4
  clear c4
  obtain rfl := Option.some.inj H
  go_enter Try.func34, Try.ntmps34
  go_wp2
  go_ret
  exact ⟨by first | rfl | (simp; done) | (simp [*]; done), by repeat (first | exact Drawn0.refl _ | apply Drawn0.step)⟩
 ·rw [if_neg c4] at H
  have c4b0 : decide (a1 ≤ a0) = false := decide_eq_false c4
  clear c4
  obtain rfl := Option.some.inj H
  go_enter Try.func34, Try.ntmps34
  go_wp2
  go_ret
  exact ⟨by first | rfl | (simp; done) | (simp [*]; done), by repeat (first | exact Drawn0.refl _ | apply Drawn0.step)⟩

/-! ### spec_l12Weights: function 41 -/
def spec_l12Weights.l0 : Nat → List Int → Int → Option (Bool)
 | 0, _, _ => none
 | k + 1, x0, x3 => if x3 < (x0.length : Int) then (if 0 ≤ x3 then ((spec_l1In.f (rd x0 x3) 1 9).bind fun t201 => (if t201 = true then (spec_l12Weights.l0 k x0 (wrap64 (x3 + 1))) else (some false))) else (none)) else ((spec_l1In.f (x0.length : Int) 1 4).bind fun t202 => (some t202))
def spec_l12Weights.f (k : Nat) (l0 : List Int) : Option (Bool) := spec_l12Weights.l0 k l0 0
theorem spec_l12Weights.mono_l : ∀ k, (∀ y0 y1, LeO (spec_l12Weights.l0 k y0 y1) (spec_l12Weights.l0 (k + 1) y0 y1))
 | 0 => fun _ _ r h => by simp [spec_l12Weights.l0] at h
 | k + 1 => by
  have ih0 := spec_l12Weights.mono_l k
  ·intro y0 y1
   unfold spec_l12Weights.l0
   repeat' first
   | (with_reducible exact ih0 _ _)
   | (with_reducible exact LeO.refl _)
   | (with_reducible exact LeO.none _)
   | (with_reducible refine LeO.ite ?_ ?_)
   | (with_reducible refine LeO.bind ?_ (fun _ => ?_))
   | exact ih0 _ _
   | exact LeO.none _
   | refine LeO.ite ?_ ?_
   | refine LeO.bind ?_ (fun _ => ?_)
theorem spec_l12Weights.mono : ∀ a0 k, LeO (spec_l12Weights.f k a0) (spec_l12Weights.f (k + 1) a0) := by
 intro a0 k
 have ih0 := spec_l12Weights.mono_l k
 unfold spec_l12Weights.f
 repeat' first
   | (with_reducible exact ih0 _ _)
   | (with_reducible exact LeO.refl _)
   | (with_reducible exact LeO.none _)
   | (with_reducible refine LeO.ite ?_ ?_)
   | (with_reducible refine LeO.bind ?_ (fun _ => ?_))
   | exact ih0 _ _
   | exact LeO.none _
   | refine LeO.ite ?_ ?_
   | refine LeO.bind ?_ (fun _ => ?_)
set_option maxHeartbeats 8000000 in
set_option maxRecDepth 100000 in
theorem spec_l12Weights.calls (k : Nat) (A0 : Option Addr) (c0 : Nat) (l0 : List Int) (r : Bool) (w : World) (hr0 : Kd.C (Kd.int .i64) w A0 l0.length l0) (hc0 : l0.length ≤ c0) (h : spec_l12Weights.f k l0 = some r) :
  Calls Try.prog 41 #[.slice A0 l0.length c0] w fun e w' => e = .returned (.bool r) ∧ Drawn0 w w' := by
 have HR0 := Aside0.mk hr0
 have HC0 := Aside0.mk hc0
 clear hr0 hc0
 have H : (spec_l12Weights.l0 k l0 0) = some r := h
 clear h
 have H' := Aside0.mk H
 clear H
 go_enter Try.func41, Try.ntmps41
 go_wp2
 go_loopg [3] k (fun kq v3 w' => ∃ (x3_1 : Int), v3 = .int .i64 x3_1 ∧ Aside0 (spec_l12Weights.l0 kq l0 x3_1 = some r) ∧ Aside0 (kq ≤ k) ∧ Drawn0 w w')
 case atStart => exact ⟨(0), (by first | rfl | (simp; done) | (simp [*]; done)), H', ⟨Nat.le_refl _⟩, by repeat (first | exact Drawn0.refl _ | apply Drawn0.step)⟩
 case round =>
  clear H'
  obtain ⟨x3_1, rfl, HA, HK1, ⟨m1, rfl⟩⟩ := hrel
  cases gk with
  | zero => exact absurd HA.out (by simp [spec_l12Weights.l0])
  | succ k1 =>
   have H := HA.out
   clear HA
   simp only [spec_l12Weights.l0] at H
   by_cases c2 : x3_1 < (l0.length : Int)
   ·rw [if_pos c2] at H
    have c2b0 : decide (x3_1 < (l0.length : Int)) = true := decide_eq_true c2
    clear c2
    by_cases c3 : 0 ≤ x3_1
    ·rw [if_pos c3] at H
     have c3b0 : decide (0 ≤ x3_1) = true := decide_eq_true c3
     clear c3
     replace H := Option.bind_eq_some_iff.mp H
     obtain ⟨t201, A40, H⟩ := H
     replace H : (if t201 = true then (spec_l12Weights.l0 k1 l0 (wrap64 (x3_1 + 1))) else (some false)) = some r := H
     have A4 := Aside0.mk A40
     clear A40
     by_cases c5 : t201 = true
     ·subst c5
      have H1 : (spec_l12Weights.l0 k1 l0 (wrap64 (x3_1 + 1))) = some r := by rw [if_pos rfl] at H; exact H
      clear H
      have H := H1
      clear H1
      have H' := Aside0.mk H
      clear H
      have p200 : 0 ≤ (x3_1 : Int) := of_decide_eq_true (by first | (with_reducible assumption) | assumption)
      have q200 : x3_1 < (l0.length : Int) := of_decide_eq_true (by first | (with_reducible assumption) | assumption)
      obtain ⟨ad200, e200, hx200_0⟩ := Kd.at_int HR0.out x3_1 p200 q200
      cases e200
      replace p200 := eq_true p200
      replace q200 := eq_true q200
      go_wp2_with (first | ((with_reducible refine gate_callee (f := 34) rfl ?_); refine goesL_ (some 14) rfl rfl Try.func34 (by kernel_rfl) rfl #[.int .i64 (rd l0 x3_1), .int .i64 1, .int .i64 9] rfl (by (try simp only [List.map_toArray, List.map_cons, List.map_nil]); first | done | rfl | (simp only [List.length_drop, List.length_take]; rfl)) ?_; (with_reducible refine (spec_l1In.calls (rd l0 x3_1) 1 9 true _ A4.out).mono ?_); rintro e w' ⟨rfl, ⟨nd, rfl⟩⟩; refine ⟨_, rfl, ?_⟩))
      go_roundg k1
      case measure => have := HK1.out; omega
      case rel => exact ⟨(wrap64 (x3_1 + 1)), (by first | rfl | (simp; done) | (simp [*]; done)), H', ⟨by have := HK1.out; omega⟩, by repeat (first | exact Drawn0.refl _ | apply Drawn0.step)⟩
     ·replace c5 := Bool.eq_false_iff.mpr c5
      subst c5
      have H1 : (some false) = some r := by rw [if_neg (show ¬ (false = true) by decide)] at H; exact H
      clear H
      have H := H1
      clear H1
      obtain rfl := Option.some.inj H
      have p200 : 0 ≤ (x3_1 : Int) := of_decide_eq_true (by first | (with_reducible assumption) | assumption)
      have q200 : x3_1 < (l0.length : Int) := of_decide_eq_true (by first | (with_reducible assumption) | assumption)
      obtain ⟨ad200, e200, hx200_0⟩ := Kd.at_int HR0.out x3_1 p200 q200
      cases e200
      replace p200 := eq_true p200
      replace q200 := eq_true q200
      go_wp2_with (first | ((with_reducible refine gate_callee (f := 34) rfl ?_); refine goesL_ (some 14) rfl rfl Try.func34 (by kernel_rfl) rfl #[.int .i64 (rd l0 x3_1), .int .i64 1, .int .i64 9] rfl (by (try simp only [List.map_toArray, List.map_cons, List.map_nil]); first | done | rfl | (simp only [List.length_drop, List.length_take]; rfl)) ?_; (with_reducible refine (spec_l1In.calls (rd l0 x3_1) 1 9 false _ A4.out).mono ?_); rintro e w' ⟨rfl, ⟨nd, rfl⟩⟩; refine ⟨_, rfl, ?_⟩))
      go_ret
      exact ⟨by first | rfl | (simp; done) | (simp [*]; done), by repeat (first | exact Drawn0.refl _ | apply Drawn0.step)⟩
    ·rw [if_neg c3] at H
     exact absurd H (by simp)
   ·rw [if_neg c2] at H
    have c2b0 : decide (x3_1 < (l0.length : Int)) = false := decide_eq_false c2
    clear c2
    replace H := Option.bind_eq_some_iff.mp H
    obtain ⟨t202, A60, H⟩ := H
    replace H : (some t202) = some r := H
    have A6 := Aside0.mk A60
    clear A60
    obtain rfl := Option.some.inj H
    go_wp2_with (first | ((with_reducible refine gate_callee (f := 34) rfl ?_); refine goesL_ (some 18) rfl rfl Try.func34 (by kernel_rfl) rfl #[.int .i64 (l0.length : Int), .int .i64 1, .int .i64 4] rfl (by (try simp only [List.map_toArray, List.map_cons, List.map_nil]); first | done | rfl | (simp only [List.length_drop, List.length_take]; rfl)) ?_; (with_reducible refine (spec_l1In.calls (l0.length : Int) 1 4 t202 _ A6.out).mono ?_); rintro e w' ⟨rfl, ⟨nd, rfl⟩⟩; refine ⟨_, rfl, ?_⟩))
    go_ret
    exact ⟨by first | rfl | (simp; done) | (simp [*]; done), by repeat (first | exact Drawn0.refl _ | apply Drawn0.step)⟩

/-! ### spec_JobsValid: function 27 -/
def spec_JobsValid.l0 : Nat → List Int → List (S30) → Int → Option (Bool)
 | 0, _, _, _ => none
 | k + 1, x0, x1, x5 => if x5 < (x1.length : Int) then (if 0 ≤ x5 then ((spec_l1In.f ((rd_T30 x1 x5).f0) 0 (wrap64 ((x0.length : Int) - 1))).bind fun t205 => (if t205 = true then ((spec_l1In.f ((rd_T30 x1 x5).f1) 1 9).bind fun t207 => (if t207 = true then (spec_JobsValid.l0 k x0 x1 (wrap64 (x5 + 1))) else (some false))) else (some false))) else (none)) else ((spec_l12Weights.f k x0).bind fun t203 => (if t203 = true then (some (decide ((x1.length : Int) ≤ 60))) else (some false)))
def spec_JobsValid.f (k : Nat) (l0 : List Int) (l1 : List (S30)) : Option (Bool) := spec_JobsValid.l0 k l0 l1 0
theorem spec_JobsValid.mono_l : ∀ k, (∀ y0 y1 y2, LeO (spec_JobsValid.l0 k y0 y1 y2) (spec_JobsValid.l0 (k + 1) y0 y1 y2))
 | 0 => fun _ _ _ r h => by simp [spec_JobsValid.l0] at h
 | k + 1 => by
  have ih0 := spec_JobsValid.mono_l k
  ·intro y0 y1 y2
   unfold spec_JobsValid.l0
   repeat' first
   | (with_reducible exact ih0 _ _ _)
   | (with_reducible exact spec_l12Weights.mono _ _)
   | (with_reducible exact LeO.refl _)
   | (with_reducible exact LeO.none _)
   | (with_reducible refine LeO.ite ?_ ?_)
   | (with_reducible refine LeO.bind ?_ (fun _ => ?_))
   | exact ih0 _ _ _
   | exact spec_l12Weights.mono _ _
   | exact LeO.none _
   | refine LeO.ite ?_ ?_
   | refine LeO.bind ?_ (fun _ => ?_)
theorem spec_JobsValid.mono : ∀ a0 a1 k, LeO (spec_JobsValid.f k a0 a1) (spec_JobsValid.f (k + 1) a0 a1) := by
 intro a0 a1 k
 have ih0 := spec_JobsValid.mono_l k
 unfold spec_JobsValid.f
 repeat' first
   | (with_reducible exact ih0 _ _ _)
   | (with_reducible exact spec_l12Weights.mono _ _)
   | (with_reducible exact LeO.refl _)
   | (with_reducible exact LeO.none _)
   | (with_reducible refine LeO.ite ?_ ?_)
   | (with_reducible refine LeO.bind ?_ (fun _ => ?_))
   | exact ih0 _ _ _
   | exact spec_l12Weights.mono _ _
   | exact LeO.none _
   | refine LeO.ite ?_ ?_
   | refine LeO.bind ?_ (fun _ => ?_)
set_option maxHeartbeats 8000000 in
set_option maxRecDepth 100000 in
theorem spec_JobsValid.calls (k : Nat) (A0 : Option Addr) (c0 : Nat) (l0 : List Int) (A1 : Option Addr) (c1 : Nat) (l1 : List (S30)) (r : Bool) (w : World) (hr0 : Kd.C (Kd.int .i64) w A0 l0.length l0) (hc0 : l0.length ≤ c0) (hr1 : Kd.C k30 w A1 l1.length l1) (hc1 : l1.length ≤ c1) (h : spec_JobsValid.f k l0 l1 = some r) :
  Calls Try.prog 27 #[.slice A0 l0.length c0, .slice A1 l1.length c1] w fun e w' => e = .returned (.bool r) ∧ Drawn0 w w' := by
 have HR0 := Aside0.mk hr0
 have HC0 := Aside0.mk hc0
 clear hr0 hc0
 have HR1 := Aside0.mk hr1
 have HC1 := Aside0.mk hc1
 clear hr1 hc1
 have H : (spec_JobsValid.l0 k l0 l1 0) = some r := h
 clear h
 have H' := Aside0.mk H
 clear H
 go_enter Try.func27, Try.ntmps27
 go_wp2
 go_loopg [5] k (fun kq v5 w' => ∃ (x5_1 : Int), v5 = .int .i64 x5_1 ∧ Aside0 (spec_JobsValid.l0 kq l0 l1 x5_1 = some r) ∧ Aside0 (kq ≤ k) ∧ Drawn0 w w')
 case atStart => exact ⟨(0), (by first | rfl | (simp; done) | (simp [*]; done)), H', ⟨Nat.le_refl _⟩, by repeat (first | exact Drawn0.refl _ | apply Drawn0.step)⟩
 case round =>
  clear H'
  try clear c1
  try clear c2
  try clear p2
  obtain ⟨x5_1, rfl, HA, HK1, ⟨m1, rfl⟩⟩ := hrel
  cases gk with
  | zero => exact absurd HA.out (by simp [spec_JobsValid.l0])
  | succ k1 =>
   have H := HA.out
   clear HA
   simp only [spec_JobsValid.l0] at H
   by_cases c3 : x5_1 < (l1.length : Int)
   ·rw [if_pos c3] at H
    have c3b0 : decide (x5_1 < (l1.length : Int)) = true := decide_eq_true c3
    clear c3
    by_cases c4 : 0 ≤ x5_1
    ·rw [if_pos c4] at H
     have c4b0 : decide (0 ≤ x5_1) = true := decide_eq_true c4
     clear c4
     replace H := Option.bind_eq_some_iff.mp H
     obtain ⟨t205, A50, H⟩ := H
     replace H : (if t205 = true then ((spec_l1In.f ((rd_T30 l1 x5_1).f1) 1 9).bind fun t207 => (if t207 = true then (spec_JobsValid.l0 k1 l0 l1 (wrap64 (x5_1 + 1))) else (some false))) else (some false)) = some r := H
     have A5 := Aside0.mk A50
     clear A50
     by_cases c6 : t205 = true
     ·subst c6
      have H1 : ((spec_l1In.f ((rd_T30 l1 x5_1).f1) 1 9).bind fun t207 => (if t207 = true then (spec_JobsValid.l0 k1 l0 l1 (wrap64 (x5_1 + 1))) else (some false))) = some r := by rw [if_pos rfl] at H; exact H
      clear H
      have H := H1
      clear H1
      replace H := Option.bind_eq_some_iff.mp H
      obtain ⟨t207, A70, H⟩ := H
      replace H : (if t207 = true then (spec_JobsValid.l0 k1 l0 l1 (wrap64 (x5_1 + 1))) else (some false)) = some r := H
      have A7 := Aside0.mk A70
      clear A70
      by_cases c8 : t207 = true
      ·subst c8
       have H1 : (spec_JobsValid.l0 k1 l0 l1 (wrap64 (x5_1 + 1))) = some r := by rw [if_pos rfl] at H; exact H
       clear H
       have H := H1
       clear H1
       have H' := Aside0.mk H
       clear H
       have p204 : 0 ≤ (x5_1 : Int) := of_decide_eq_true (by first | (with_reducible assumption) | assumption)
       have q204 : x5_1 < (l1.length : Int) := of_decide_eq_true (by first | (with_reducible assumption) | assumption)
       obtain ⟨ad204, e204, hx204_0, hx204_1⟩ := at_T30 HR1.out x5_1 p204 q204
       cases e204
       replace p204 := eq_true p204
       replace q204 := eq_true q204
       go_wp2_with (first | ((with_reducible refine gate_callee (f := 34) rfl ?_); refine goesL_ (some 20) rfl rfl Try.func34 (by kernel_rfl) rfl #[.int .i64 ((rd_T30 l1 x5_1).f0), .int .i64 0, .int .i64 (wrap64 ((l0.length : Int) - 1))] rfl (by (try simp only [List.map_toArray, List.map_cons, List.map_nil]); first | done | rfl | (simp only [List.length_drop, List.length_take]; rfl)) ?_; (with_reducible refine (spec_l1In.calls ((rd_T30 l1 x5_1).f0) 0 (wrap64 ((l0.length : Int) - 1)) true _ A5.out).mono ?_); rintro e w' ⟨rfl, ⟨nd, rfl⟩⟩; refine ⟨_, rfl, ?_⟩; have p206 : 0 ≤ (x5_1 : Int) := of_decide_eq_true (by first | (with_reducible assumption) | assumption); have q206 : x5_1 < (l1.length : Int) := of_decide_eq_true (by first | (with_reducible assumption) | assumption); obtain ⟨ad206, e206, hx206_0, hx206_1⟩ := at_T30 HR1.out x5_1 p206 q206; obtain rfl : ad204 = ad206 := (by injection e206); replace p206 := eq_true p206; replace q206 := eq_true q206) | (go_at_call 34; (with_reducible refine (spec_l1In.calls ((rd_T30 l1 x5_1).f1) 1 9 true _ A7.out).mono ?_); rintro e w' ⟨rfl, ⟨nd, rfl⟩⟩))
       go_roundg k1
       case measure => have := HK1.out; omega
       case rel => exact ⟨(wrap64 (x5_1 + 1)), (by first | rfl | (simp; done) | (simp [*]; done)), H', ⟨by have := HK1.out; omega⟩, by repeat (first | exact Drawn0.refl _ | apply Drawn0.step)⟩
      ·replace c8 := Bool.eq_false_iff.mpr c8
       subst c8
       have H1 : (some false) = some r := by rw [if_neg (show ¬ (false = true) by decide)] at H; exact H
       clear H
       have H := H1
       clear H1
       obtain rfl := Option.some.inj H
       have p204 : 0 ≤ (x5_1 : Int) := of_decide_eq_true (by first | (with_reducible assumption) | assumption)
       have q204 : x5_1 < (l1.length : Int) := of_decide_eq_true (by first | (with_reducible assumption) | assumption)
       obtain ⟨ad204, e204, hx204_0, hx204_1⟩ := at_T30 HR1.out x5_1 p204 q204
       cases e204
       replace p204 := eq_true p204
       replace q204 := eq_true q204
       go_wp2_with (first | ((with_reducible refine gate_callee (f := 34) rfl ?_); refine goesL_ (some 20) rfl rfl Try.func34 (by kernel_rfl) rfl #[.int .i64 ((rd_T30 l1 x5_1).f0), .int .i64 0, .int .i64 (wrap64 ((l0.length : Int) - 1))] rfl (by (try simp only [List.map_toArray, List.map_cons, List.map_nil]); first | done | rfl | (simp only [List.length_drop, List.length_take]; rfl)) ?_; (with_reducible refine (spec_l1In.calls ((rd_T30 l1 x5_1).f0) 0 (wrap64 ((l0.length : Int) - 1)) true _ A5.out).mono ?_); rintro e w' ⟨rfl, ⟨nd, rfl⟩⟩; refine ⟨_, rfl, ?_⟩; have p206 : 0 ≤ (x5_1 : Int) := of_decide_eq_true (by first | (with_reducible assumption) | assumption); have q206 : x5_1 < (l1.length : Int) := of_decide_eq_true (by first | (with_reducible assumption) | assumption); obtain ⟨ad206, e206, hx206_0, hx206_1⟩ := at_T30 HR1.out x5_1 p206 q206; obtain rfl : ad204 = ad206 := (by injection e206); replace p206 := eq_true p206; replace q206 := eq_true q206) | (go_at_call 34; (with_reducible refine (spec_l1In.calls ((rd_T30 l1 x5_1).f1) 1 9 false _ A7.out).mono ?_); rintro e w' ⟨rfl, ⟨nd, rfl⟩⟩))
       go_ret
       exact ⟨by first | rfl | (simp; done) | (simp [*]; done), by repeat (first | exact Drawn0.refl _ | apply Drawn0.step)⟩
     ·replace c6 := Bool.eq_false_iff.mpr c6
      subst c6
      have H1 : (some false) = some r := by rw [if_neg (show ¬ (false = true) by decide)] at H; exact H
      clear H
      have H := H1
      clear H1
      obtain rfl := Option.some.inj H
      have p204 : 0 ≤ (x5_1 : Int) := of_decide_eq_true (by first | (with_reducible assumption) | assumption)
      have q204 : x5_1 < (l1.length : Int) := of_decide_eq_true (by first | (with_reducible assumption) | assumption)
      obtain ⟨ad204, e204, hx204_0, hx204_1⟩ := at_T30 HR1.out x5_1 p204 q204
      cases e204
      replace p204 := eq_true p204
      replace q204 := eq_true q204
      go_wp2_with (first | ((with_reducible refine gate_callee (f := 34) rfl ?_); refine goesL_ (some 20) rfl rfl Try.func34 (by kernel_rfl) rfl #[.int .i64 ((rd_T30 l1 x5_1).f0), .int .i64 0, .int .i64 (wrap64 ((l0.length : Int) - 1))] rfl (by (try simp only [List.map_toArray, List.map_cons, List.map_nil]); first | done | rfl | (simp only [List.length_drop, List.length_take]; rfl)) ?_; (with_reducible refine (spec_l1In.calls ((rd_T30 l1 x5_1).f0) 0 (wrap64 ((l0.length : Int) - 1)) false _ A5.out).mono ?_); rintro e w' ⟨rfl, ⟨nd, rfl⟩⟩; refine ⟨_, rfl, ?_⟩))
      go_ret
      exact ⟨by first | rfl | (simp; done) | (simp [*]; done), by repeat (first | exact Drawn0.refl _ | apply Drawn0.step)⟩
    ·rw [if_neg c4] at H
     exact absurd H (by simp)
   ·rw [if_neg c3] at H
    have c3b0 : decide (x5_1 < (l1.length : Int)) = false := decide_eq_false c3
    clear c3
    replace H := Option.bind_eq_some_iff.mp H
    obtain ⟨t203, A90, H⟩ := H
    replace H : (if t203 = true then (some (decide ((l1.length : Int) ≤ 60))) else (some false)) = some r := H
    have A9 := Aside0.mk A90
    clear A90
    by_cases c10 : t203 = true
    ·subst c10
     have H1 : (some (decide ((l1.length : Int) ≤ 60))) = some r := by rw [if_pos rfl] at H; exact H
     clear H
     have H := H1
     clear H1
     obtain rfl := Option.some.inj H
     go_wp2_with (first | ((with_reducible refine gate_callee (f := 41) rfl ?_); refine goesL_ (some 32) rfl rfl Try.func41 (by kernel_rfl) rfl #[.slice A0 l0.length c0] rfl (by (try simp only [List.map_toArray, List.map_cons, List.map_nil]); first | done | rfl | (simp only [List.length_drop, List.length_take]; rfl)) ?_; (with_reducible refine (spec_l12Weights.calls k1 _ _ l0 true _ ?side1 ?side2 A9.out).mono ?_); (case side1 => repeat (first | exact HR0.out | (with_reducible refine Kd.C_alloc ?_ _) | (with_reducible refine Kd.C_drewN ?_ _) | (with_reducible refine Kd.C_drew ?_))); (case side2 => exact HC0.out); rintro e w' ⟨rfl, ⟨nd, rfl⟩⟩; refine ⟨_, rfl, ?_⟩))
     go_ret
     exact ⟨by first | rfl | (simp; done) | (simp [*]; done), by repeat (first | exact Drawn0.refl _ | apply Drawn0.step)⟩
    ·replace c10 := Bool.eq_false_iff.mpr c10
     subst c10
     have H1 : (some false) = some r := by rw [if_neg (show ¬ (false = true) by decide)] at H; exact H
     clear H
     have H := H1
     clear H1
     obtain rfl := Option.some.inj H
     go_wp2_with (first | ((with_reducible refine gate_callee (f := 41) rfl ?_); refine goesL_ (some 32) rfl rfl Try.func41 (by kernel_rfl) rfl #[.slice A0 l0.length c0] rfl (by (try simp only [List.map_toArray, List.map_cons, List.map_nil]); first | done | rfl | (simp only [List.length_drop, List.length_take]; rfl)) ?_; (with_reducible refine (spec_l12Weights.calls k1 _ _ l0 false _ ?side1 ?side2 A9.out).mono ?_); (case side1 => repeat (first | exact HR0.out | (with_reducible refine Kd.C_alloc ?_ _) | (with_reducible refine Kd.C_drewN ?_ _) | (with_reducible refine Kd.C_drew ?_))); (case side2 => exact HC0.out); rintro e w' ⟨rfl, ⟨nd, rfl⟩⟩; refine ⟨_, rfl, ?_⟩))
     go_ret
     exact ⟨by first | rfl | (simp; done) | (simp [*]; done), by repeat (first | exact Drawn0.refl _ | apply Drawn0.step)⟩

end Go.Proofs.Ytnagdcigoaeicaa.PA
