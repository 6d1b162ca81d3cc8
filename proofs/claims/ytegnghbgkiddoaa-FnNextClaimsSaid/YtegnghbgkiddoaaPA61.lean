-- Laid by this session's own program (pr.py) over the translation; Lean checks it.
import Derived.Test.YtegnghbgkiddoaaPA0
import Derived.Test.YtegnghbgkiddoaaPA1
namespace Go.Proofs.Ytegnghbgkiddoaa.PA
open Go.RowKit Go.Proofs.YtegnghbgkiddoaaW.PrintWords Go.Proofs.YtegnghbgkiddoaaW.PrintLast Go.Proofs.YtegnghbgkiddoaaW.PrintMore
attribute [local go_sem] max2_int min2_int max_two min_two max_three min_three max_four min_four   -- for this text's walks alone
set_option linter.unusedVariables false
set_option linter.unusedSimpArgs false

/-! ### impl_all_NextClaims: function 1080079 -/
def AllL.SomeIdx (b : Bool) (w : World) (e : Ending) (w' : World) : Prop := ∃ z : Int, e = .returned (.int .i64 z) ∧ decide (0 ≤ z) = b ∧ Below w.heap.size w w'
def AllL.Pred (g : Nat) (lb : Array Value) (p : List Int → Bool) (w : World) : Prop :=
 ∀ (W : World) (A : Option Addr) (c : Nat) (x : List Int), Below w.heap.size w W → x.length ≤ c → Kd.C (Kd.int .i64) W A x.length x → Calls Try.prog g (#[.slice A x.length c] ++ lb) W fun e w' => e = .returned (.bool (p x)) ∧ Below W.heap.size W w'
theorem AllL.Pred.later {g : Nat} {lb : Array Value} {p : List Int → Bool} {w W : World} (h : AllL.Pred g lb p w) (hb : Below w.heap.size w W) : AllL.Pred g lb p W :=
 fun W' A c x hb' => h W' A c x (hb.trans (hb'.mono hb.size))
theorem AllL.mem (l : List (List Int)) (i : Int) (h0 : 0 ≤ i) (h : i < (l.length : Int)) : l.getD i.toNat [] ∈ l := by
 obtain ⟨n, rfl⟩ := Int.eq_ofNat_of_zero_le h0
 have hn : n < l.length := by omega
 have e : l.getD (n : Int).toNat [] = l[n] := by simp [List.getD_eq_getElem?_getD, hn]
 rw [e]
 exact List.getElem_mem _
theorem AllL.take_any {l : List (List Int)} {p : List Int → Bool} {x : Int} (h0 : 0 ≤ x) (h1 : x < (l.length : Int)) : (l.take (x + 1).toNat).any p = ((l.take x.toNat).any p || p (l.getD x.toNat [])) := by
 obtain ⟨n, rfl⟩ := Int.eq_ofNat_of_zero_le h0
 have hn : n < l.length := by omega
 have e : ((n : Int) + 1).toNat = n + 1 := by omega
 have e2 : l.getD (n : Int).toNat [] = l[n] := by simp [List.getD_eq_getElem?_getD, hn]
 rw [e, e2, Int.toNat_natCast, List.take_succ_eq_append_getElem hn, List.any_append]
 simp
theorem AllL.at {w : World} {A : Option Addr} {n : Nat} {xs : List (List Int)} (h : Kd.C (Kd.slice 3 (Kd.int .i64)) w A n xs) (i : Int) (h0 : 0 ≤ i) (h1 : i < n) : ∃ ad A0 c0, A = some ad ∧ w.cell? (ad.add i.toNat) = some (.slice A0 (xs.getD i.toNat []).length c0) ∧ (xs.getD i.toNat []).length ≤ c0 ∧ (Kd.int .i64).C w A0 (xs.getD i.toNat []).length (xs.getD i.toNat []) := by
 obtain ⟨ad, c, e, _, hK, hc0⟩ := Kd.C_get h ([] : List Int) i h0 h1
 have hc : ∀ j u, c[j]? = some u → w.cell? (ad.add (i.toNat * 1 + j)) = some u := hc0
 obtain ⟨A0, c0, rfl, l0, g0⟩ := hK
 exact ⟨ad, A0, c0, e, by have hq := hc 0 _ rfl; rwa [Nat.mul_one, Nat.add_zero] at hq, l0, g0⟩
set_option maxHeartbeats 4000000 in
theorem AllL.idx (p : List Int → Bool) (g : Nat) (lb : Array Value) (eg : ∀ args w, (callFunc g args).run Try.prog w = .ok (.enter g args) w) (A : Option Addr) (c : Nat) (l : List (List Int)) (w : World)
  (hp : AllL.Pred g lb p w) (hr : Kd.C (Kd.slice 3 (Kd.int .i64)) w A l.length l) :
  Calls Try.prog 122 #[.slice A l.length c, .func (.func g) #[] lb] w (AllL.SomeIdx (l.any p) w) := by
 have hlen : l.length ≤ 9223372036854775807 := hr.2.1
 have HR := Aside0.mk hr
 have HP := Aside0.mk hp
 clear hr hp
 have HB := Aside0.mk (Below.refl w.heap.size w)
 go_enter Try.func122, Try.ntmps122
 go_wp2
 go_loopg [5, 8] l.length (fun gg _ s8 wr => ∃ x : Int, s8 = .int .i64 x ∧ Aside0 (0 ≤ x ∧ x ≤ (l.length : Int) ∧ (l.length : Int) - x ≤ gg) ∧ Aside0 (Below w.heap.size w wr) ∧ Aside0 ((l.take x.toNat).any p = false))
 case atStart => exact ⟨0, rfl, ⟨⟨by omega, by omega, by omega⟩⟩, HB, ⟨by simp⟩⟩
 case round =>
  clear HB
  obtain ⟨x, rfl, HX, HB, HA⟩ := hrel
  have hx0 := HX.out.1
  have hx1 := HX.out.2.1
  by_cases hlt : x < (l.length : Int)
  ·have c0 : decide (0 ≤ x) = true := decide_eq_true hx0
   have c1 : decide (x < (l.length : Int)) = true := decide_eq_true hlt
   obtain ⟨ad, A1, c1_, e0, hx, hle, hrow⟩ := AllL.at (Kd.C_below HR.out HB.out) x hx0 hlt
   cases e0
   have hcall := HP.out _ A1 c1_ (l.getD x.toNat []) HB.out hle hrow
   have HT := Aside0.mk (AllL.take_any (p := p) hx0 hlt)
   have HM := Aside0.mk (AllL.mem l x hx0 hlt)
   clear hle hrow
   generalize l.getD x.toNat [] = y at hx hcall HT HM
   cases hq : p y with
   | true =>
    rw [hq] at hcall
    have HQ := Aside0.mk hq
    clear hq
    go_wp2_with fail
    refine hcall.mono ?_
    clear hcall
    rintro e w' ⟨rfl, hb'⟩
    go_wp2_with fail
    go_ret
    refine ⟨x, rfl, ?_, (HB.out).trans (hb'.mono HB.out.size)⟩
    rw [c0]
    symm
    rw [List.any_eq_true]
    exact ⟨y, HM.out, HQ.out⟩
   | false =>
    rw [hq] at hcall
    have HQ := Aside0.mk hq
    clear hq
    go_wp2_with fail
    refine hcall.mono ?_
    clear hcall
    rintro e w' ⟨rfl, hb'⟩
    go_wp2_with fail
    go_roundg ((l.length : Int) - (x + 1)).toNat
    case measure => have := HX.out; omega
    case rel =>
     refine ⟨x + 1, by go_num, ⟨⟨by omega, by omega, by omega⟩⟩, ⟨(HB.out).trans (hb'.mono HB.out.size)⟩, ⟨?_⟩⟩
     rw [HT.out, HA.out, HQ.out]; rfl
  ·have c1 : decide (x < (l.length : Int)) = false := decide_eq_false hlt
   go_wp2
   go_ret
   refine ⟨-1, rfl, ?_, HB.out⟩
   have : x.toNat = l.length := by omega
   have h := HA.out
   rw [this, List.take_length] at h
   rw [h]; rfl
set_option maxHeartbeats 4000000 in
theorem AllL.cont (p : List Int → Bool) (g : Nat) (lb : Array Value) (eg : ∀ args w, (callFunc g args).run Try.prog w = .ok (.enter g args) w) (A : Option Addr) (c : Nat) (l : List (List Int)) (w : World)
  (hp : AllL.Pred g lb p w) (hr : Kd.C (Kd.slice 3 (Kd.int .i64)) w A l.length l) :
  Calls Try.prog 101 #[.slice A l.length c, .func (.func g) #[] lb] w fun e w' => e = .returned (.bool (l.any p)) ∧ Below w.heap.size w w' := by
 have hcall := AllL.idx p g lb eg A c l w hp hr
 clear hp hr
 generalize l.any p = b at hcall ⊢
 go_enter Try.func101, Try.ntmps101
 go_wp2_with fail
 refine hcall.mono ?_
 clear hcall eg
 rintro e w' ⟨z, rfl, hz, hb⟩
 have HZ := Aside0.mk hz
 have HBB := Aside0.mk hb
 clear hz hb
 go_wp2_with fail
 go_ret
 exact ⟨by simp; exact HZ.out, HBB.out⟩
set_option maxHeartbeats 4000000 in
theorem AllL.not (p : List Int → Bool) (g : Nat) (lb : Array Value) (eg : ∀ args w, (callFunc g args).run Try.prog w = .ok (.enter g args) w) (B : Nat) (w : World)
  (hp : AllL.Pred g lb p w) (hB : B < w.heap.size) (hc : w.cell? ⟨B, 0, none⟩ = some (.func (.func g) #[] lb)) :
  AllL.Pred 102 #[.pointer (some ⟨B, 0, none⟩)] (fun x => !p x) w := by
 intro W A c x hb hle hrow
 have hcall := hp W A c x hb hle hrow
 have hc' : W.cell? ⟨B, 0, none⟩ = some (.func (.func g) #[] lb) := (hb.cell (p := ⟨B, 0, none⟩) hB).trans hc
 clear hp hc hb hB hle hrow
 show Calls Try.prog 102 #[.slice A x.length c, .pointer (some ⟨B, 0, none⟩)] W fun e w' => e = .returned (.bool (!p x)) ∧ Below W.heap.size W w'
 generalize p x = b at hcall ⊢
 go_enter Try.func102, Try.ntmps102
 go_wp2_with fail
 refine hcall.mono ?_
 clear hcall eg
 rintro e w' ⟨rfl, hb⟩
 have HBB := Aside0.mk hb
 clear hb
 go_wp2_with fail
 go_ret
 exact ⟨rfl, HBB.out⟩
set_option maxHeartbeats 4000000 in
theorem AllL.all (p : List Int → Bool) (g : Nat) (lb : Array Value) (eg : ∀ args w, (callFunc g args).run Try.prog w = .ok (.enter g args) w) (A : Option Addr) (c : Nat) (l : List (List Int)) (w : World)
  (hp : AllL.Pred g lb p w) (hr : Kd.C (Kd.slice 3 (Kd.int .i64)) w A l.length l) :
  Calls Try.prog 79 #[.slice A l.length c, .func (.func g) #[] lb] w fun e w' => e = .returned (.bool (l.all p)) ∧ Below w.heap.size w w' := by
 have hb1 : Below w.heap.size w (w.alloc (.cells #[.func (.func g) #[] lb] 82)) := below_alloc (Below.refl _ _) _
 have e1 : ∀ args w, (callFunc 102 args).run Try.prog w = .ok (.enter 102 args) w := enters_of Try.func102 (by kernel_rfl) rfl
 have hcall := AllL.cont (fun x => !p x) 102 #[.pointer (some ⟨w.heap.size, 0, none⟩)] e1 A c l (w.alloc (.cells #[.func (.func g) #[] lb] 82))
  (AllL.not p g lb eg w.heap.size _ (hp.later hb1) (by simp) (by simp)) (Kd.C_below hr hb1)
 have e2 : (l.any fun x => !p x) = !(l.all p) := by rw [List.not_all_eq_any_not]
 rw [e2] at hcall
 have HB1 := Aside0.mk hb1
 clear hp hr e1 e2 hb1
 generalize l.all p = b at hcall ⊢
 go_enter Try.func79, Try.ntmps79
 go_wp2_with fail
 refine hcall.mono ?_
 clear hcall eg
 rintro e w' ⟨rfl, hb⟩
 have HBB := Aside0.mk hb
 clear hb
 go_wp2_with fail
 go_ret
 exact ⟨by simp, HB1.out.trans (HBB.out.mono HB1.out.size)⟩
theorem AllL.pred (w : World) : AllL.Pred 80 #[] (fun c => decide (c.length = 4) && decide (0 ≤ c.getD 1 0 ∧ c.getD 1 0 ≤ 10000)) w := by
 intro W A c x hb hle hrow
 clear hb
 have hlen : x.length ≤ 9223372036854775807 := hrow.2.1
 show Calls Try.prog 80 #[.slice A x.length c] W fun e w' => e = .returned (.bool (decide (x.length = 4) && decide (0 ≤ x.getD 1 0 ∧ x.getD 1 0 ≤ 10000))) ∧ Below W.heap.size W w'
 by_cases h4 : x.length = 4
 ·have hw : impl_within.f (x.getD 1 0) 0 10000 = some (decide (0 ≤ x.getD 1 0 ∧ x.getD 1 0 ≤ 10000)) := by unfold impl_within.f; generalize x.getD 1 0 = y; by_cases h : 0 ≤ y <;> simp [h]
  obtain ⟨ad, hA, hcell⟩ := Kd.at_int hrow 1 (by omega) (by omega)
  subst hA
  replace hcell : W.cell? (ad.add 1) = some (.int .i64 (x.getD 1 0)) := hcell
  have hcell2 : W.cell? ⟨ad.block, ad.off + 1, none⟩ = some (.int .i64 (x.getD 1 0)) := hcell
  have hcall := fun nd => impl_within.calls (x.getD 1 0) 0 10000 _ (W.drewN nd) hw
  have hcall0 := impl_within.calls (x.getD 1 0) 0 10000 _ W hw
  have HC := Aside0.mk hcall
  have HC0 := Aside0.mk hcall0
  clear hcall hcall0 hw hrow
  have e4 : decide (x.length = 4) = true := decide_eq_true h4
  rw [e4, h4, Bool.true_and]
  generalize decide (0 ≤ x.getD 1 0 ∧ x.getD 1 0 ≤ 10000) = b at HC HC0 ⊢
  generalize x.getD 1 0 = y at hcell hcell2 HC HC0
  clear h4 hle hlen e4 hcell
  go_enter Try.func80, Try.ntmps80
  go_wp2_with (first | (go_at_call 70; refine (HC0.out).mono ?_; rintro e w' ⟨rfl, ⟨nd, rfl⟩⟩))
  go_ret
  exact ⟨by first | rfl | (simp; done), by first | exact pw_below_drewN (Below.refl _ _) _ | exact Below.refl _ _⟩
 ·have e4 : decide (x.length = 4) = false := decide_eq_false h4
  have e5 : ((x.length : Int) == 4) = false := by simp; omega
  rw [e4]
  clear hrow
  go_enter Try.func80, Try.ntmps80
  go_wp2
  go_ret
  exact ⟨by first | rfl | (simp; done), Below.refl _ _⟩
def impl_all_NextClaims.f (l0 : List (List Int)) : Option (Bool) := some (l0.all (fun c => decide (c.length = 4) && decide (0 ≤ c.getD 1 0 ∧ c.getD 1 0 ≤ 10000)))
theorem impl_all_NextClaims.calls (A0 : Option Addr) (c0 : Nat) (l0 : List (List Int)) (r : Bool) (w : World) (hr0 : Kd.C (Kd.slice 3 (Kd.int .i64)) w A0 l0.length l0) (hc0 : l0.length ≤ c0) (h : impl_all_NextClaims.f l0 = some r) :
  Calls Try.prog 79 #[.slice A0 l0.length c0, .func (.func 80) #[] #[]] w fun e w' => e = .returned (.bool r) ∧ Below w.heap.size w w' := by
 unfold impl_all_NextClaims.f at h
 obtain rfl := Option.some.inj h
 exact AllL.all _ 80 #[] (enters_of Try.func80 (by kernel_rfl) rfl) A0 c0 l0 w (AllL.pred w) hr0

end Go.Proofs.Ytegnghbgkiddoaa.PA
