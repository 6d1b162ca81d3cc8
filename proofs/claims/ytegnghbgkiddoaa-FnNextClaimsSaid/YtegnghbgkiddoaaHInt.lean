/- What the program's helper 'all' over numbers answers, and what it leans on in package slices: contracts over any predicate. Conditions: the predicate's own contract; the slice reads as a list. -/
import Derived.Test.YtegnghbgkiddoaaProg
import Derived.Test.YtegnghbgkiddoaaWMore
import Derived.Test.YtegnghbgkiddoaaWWords
import Derived.Test.YtegnghbgkiddoaaWLast
import Derived.Shelf.Abstract
import Derived.Laws.CopyOwn
import Derived.Lib.SliceRun
import Derived.Deep.RegionLaw
set_option linter.unusedVariables false
set_option linter.unusedSimpArgs false
namespace Go.Proofs.Ytegnghbgkiddoaa.H
open Go Go.RowKit Go.Proofs.YtegnghbgkiddoaaW.PrintWords Go.Proofs.YtegnghbgkiddoaaW.PrintLast

def SomeIdx (b : Bool) (w : World) (e : Ending) (w' : World) : Prop := ∃ z : Int, e = .returned (.int .i64 z) ∧ decide (0 ≤ z) = b ∧ Below w.heap.size w w'
/-- what is asked of a predicate on numbers -/
def PredInt (g : Nat) (lb : Array Value) (p : Int → Bool) (w : World) : Prop :=
  ∀ (W : World) (x : Int), Below w.heap.size w W → Calls Try.prog g (#[.int .i64 x] ++ lb) W fun e w' => e = .returned (.bool (p x)) ∧ Below W.heap.size W w'
theorem PredInt.later {g : Nat} {lb : Array Value} {p : Int → Bool} {w W : World} (h : PredInt g lb p w) (hb : Below w.heap.size w W) : PredInt g lb p W :=
  fun W' x hb' => h W' x (hb.trans (hb'.mono hb.size))

theorem rd_mem_ (l : List Int) (i : Int) (h0 : 0 ≤ i) (h : i < (l.length : Int)) : rd l i ∈ l := by
  obtain ⟨n, rfl⟩ := Int.eq_ofNat_of_zero_le h0
  have hn : n < l.length := by omega
  have e : rd l (n : Int) = l[n] := by simp [rd, List.getD_eq_getElem?_getD, hn]
  rw [e]
  exact List.getElem_mem _
theorem take_any {l : List Int} {p : Int → Bool} {x : Int} (h0 : 0 ≤ x) (h1 : x < (l.length : Int)) : (l.take (x + 1).toNat).any p = ((l.take x.toNat).any p || p (rd l x)) := by
  obtain ⟨n, rfl⟩ := Int.eq_ofNat_of_zero_le h0
  have hn : n < l.length := by omega
  have e : ((n : Int) + 1).toNat = n + 1 := by omega
  have e2 : rd l (n : Int) = l[n] := by simp [rd, List.getD_eq_getElem?_getD, hn]
  rw [e, e2, Int.toNat_natCast, List.take_succ_eq_append_getElem hn, List.any_append]
  simp

set_option maxHeartbeats 4000000 in
theorem idx_int (p : Int → Bool) (g : Nat) (lb : Array Value) (eg : ∀ args w, (callFunc g args).run Try.prog w = .ok (.enter g args) w) (A : Option Addr) (c : Nat) (l : List Int) (w : World)
    (hp : PredInt g lb p w) (hr : Kd.C (Kd.int .i64) w A l.length l) :
    Calls Try.prog 141 #[.slice A l.length c, .func (.func g) #[] lb] w (SomeIdx (l.any p) w) := by
  have hlen : l.length ≤ 9223372036854775807 := hr.2.1
  have HR := Aside0.mk hr
  have HP := Aside0.mk hp
  clear hr hp
  have HB := Aside0.mk (Below.refl w.heap.size w)
  go_enter Try.func141, Try.ntmps141
  go_wp2
  go_loopg [5, 8] l.length (fun gg _ s8 wr => ∃ x : Int, s8 = .int .i64 x ∧ Aside0 (0 ≤ x ∧ x ≤ (l.length : Int) ∧ (l.length : Int) - x ≤ gg) ∧ Aside0 (Below w.heap.size w wr) ∧ Aside0 ((l.take x.toNat).any p = false))
  case atStart => exact ⟨0, rfl, ⟨⟨by omega, by omega, by omega⟩⟩, HB, ⟨by simp⟩⟩
  case round =>
    clear HB
    obtain ⟨x, rfl, HX, HB, HA⟩ := hrel
    have hx0 := HX.out.1
    have hx1 := HX.out.2.1
    by_cases hlt : x < (l.length : Int)
    · have c0 : decide (0 ≤ x) = true := decide_eq_true hx0
      have c1 : decide (x < (l.length : Int)) = true := decide_eq_true hlt
      obtain ⟨ad, e0, hx⟩ := Kd.at_int (Kd.C_below HR.out HB.out) x hx0 hlt
      cases e0
      have hcall := HP.out _ (rd l x) HB.out
      have HT := Aside0.mk (take_any (p := p) hx0 hlt)
      generalize hy : rd l x = y at hx hcall
      have HY := Aside0.mk hy
      clear hy
      cases hq : p y with
      | true =>
        rw [hq] at hcall
        go_wp2_with fail
        refine hcall.mono ?_
        clear hcall
        rintro e w' ⟨rfl, hb'⟩
        go_wp2_with fail
        go_ret
        refine ⟨x, rfl, ?_, (HB.out).trans (hb'.mono HB.out.size)⟩
        rw [c0]
        symm
        rw [List.any_eq_true]
        refine ⟨rd l x, rd_mem_ l x hx0 hlt, ?_⟩
        rw [HY.out]; exact hq
      | false =>
        rw [hq] at hcall
        go_wp2_with fail
        refine hcall.mono ?_
        clear hcall
        rintro e w' ⟨rfl, hb'⟩
        go_wp2_with fail
        go_roundg ((l.length : Int) - (x + 1)).toNat
        case measure => have := HX.out; omega
        case rel =>
          refine ⟨x + 1, by go_num, ⟨⟨by omega, by omega, by omega⟩⟩, ⟨(HB.out).trans (hb'.mono HB.out.size)⟩, ⟨?_⟩⟩
          rw [HT.out, HA.out, HY.out, hq]; rfl
    · have c1 : decide (x < (l.length : Int)) = false := decide_eq_false hlt
      go_wp2
      go_ret
      refine ⟨-1, rfl, ?_, HB.out⟩
      have : x.toNat = l.length := by omega
      have h := HA.out
      rw [this, List.take_length] at h
      rw [h]; rfl

set_option maxHeartbeats 4000000 in
theorem contains_int (p : Int → Bool) (g : Nat) (lb : Array Value) (eg : ∀ args w, (callFunc g args).run Try.prog w = .ok (.enter g args) w) (A : Option Addr) (c : Nat) (l : List Int) (w : World)
    (hp : PredInt g lb p w) (hr : Kd.C (Kd.int .i64) w A l.length l) :
    Calls Try.prog 139 #[.slice A l.length c, .func (.func g) #[] lb] w fun e w' => e = .returned (.bool (l.any p)) ∧ Below w.heap.size w w' := by
  have hcall := idx_int p g lb eg A c l w hp hr
  clear hp hr
  generalize l.any p = b at hcall ⊢
  go_enter Try.func139, Try.ntmps139
  go_wp2_with fail
  refine hcall.mono ?_
  clear hcall eg
  rintro e w' ⟨z, rfl, hz, hb⟩
  have HZ := Aside0.mk hz
  have HBB := Aside0.mk hb
  clear hz hb
  go_wp2_with fail
  go_ret
  exact ⟨by simp; exact HZ.out, HBB.out⟩

/-- the closure inside 'all': the predicate turned round -/
theorem not_int (p : Int → Bool) (g : Nat) (lb : Array Value) (eg : ∀ args w, (callFunc g args).run Try.prog w = .ok (.enter g args) w) (B : Nat) (w : World)
    (hp : PredInt g lb p w) (hB : B < w.heap.size) (hc : w.cell? ⟨B, 0, none⟩ = some (.func (.func g) #[] lb)) :
    PredInt 140 #[.pointer (some ⟨B, 0, none⟩)] (fun x => !p x) w := by
  intro W x hb
  have hcall := hp W x hb
  have hc' : W.cell? ⟨B, 0, none⟩ = some (.func (.func g) #[] lb) := (hb.cell (p := ⟨B, 0, none⟩) hB).trans hc
  clear hp hc hb
  show Calls Try.prog 140 #[.int .i64 x, .pointer (some ⟨B, 0, none⟩)] W fun e w' => e = .returned (.bool (!p x)) ∧ Below W.heap.size W w'
  generalize p x = b at hcall ⊢
  go_enter Try.func140, Try.ntmps140
  go_wp2_with fail
  refine hcall.mono ?_
  clear hcall eg
  rintro e w' ⟨rfl, hb⟩
  have HBB := Aside0.mk hb
  clear hb
  go_wp2_with fail
  go_ret
  exact ⟨rfl, HBB.out⟩

set_option maxHeartbeats 4000000 in
/-- all[int]: does it hold of each? -/
theorem all_int (p : Int → Bool) (g : Nat) (lb : Array Value) (eg : ∀ args w, (callFunc g args).run Try.prog w = .ok (.enter g args) w) (A : Option Addr) (c : Nat) (l : List Int) (w : World)
    (hp : PredInt g lb p w) (hr : Kd.C (Kd.int .i64) w A l.length l) :
    Calls Try.prog 136 #[.slice A l.length c, .func (.func g) #[] lb] w fun e w' => e = .returned (.bool (l.all p)) ∧ Below w.heap.size w w' := by
  have hb1 : Below w.heap.size w (w.alloc (.cells #[.func (.func g) #[] lb] 37)) := below_alloc (Below.refl _ _) _
  have e1 : ∀ args w, (callFunc 140 args).run Try.prog w = .ok (.enter 140 args) w := enters_of Try.func140 (by kernel_rfl) rfl
  have hcall := contains_int (fun x => !p x) 140 #[.pointer (some ⟨w.heap.size, 0, none⟩)] e1 A c l (w.alloc (.cells #[.func (.func g) #[] lb] 37))
    (not_int p g lb eg w.heap.size _ (hp.later hb1) (by simp) (by simp)) (Kd.C_below hr hb1)
  have e2 : (l.any fun x => !p x) = !(l.all p) := by rw [List.not_all_eq_any_not]
  rw [e2] at hcall
  have HB1 := Aside0.mk hb1
  clear hp hr e1 e2 hb1
  generalize l.all p = b at hcall ⊢
  go_enter Try.func136, Try.ntmps136
  go_wp2_with fail
  refine hcall.mono ?_
  clear hcall eg
  rintro e w' ⟨rfl, hb⟩
  have HBB := Aside0.mk hb
  clear hb
  go_wp2_with fail
  go_ret
  exact ⟨by simp, HB1.out.trans (HBB.out.mono HB1.out.size)⟩
end Go.Proofs.Ytegnghbgkiddoaa.H
