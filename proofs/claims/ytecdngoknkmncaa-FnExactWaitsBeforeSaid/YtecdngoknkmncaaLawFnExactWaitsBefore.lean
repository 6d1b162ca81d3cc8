/- The row of the law FnExactWaitsBefore: for every input the call answers true and leaves its arguments as they were. Conditions: none beyond those that every row supposes. -/
import Derived.Test.YtecdngoknkmncaaRows
import Derived.Test.YtecdngoknkmncaaPA13
import Derived.Test.YtecdngoknkmncaaOpen
import Derived.Test.YtecdngoknkmncaaQExactWaitsBefore
import Derived.WalkKit
import Derived.ProofKit
import Derived.OpenShut
import Derived.ShutString
import Derived.ChangeOld
import Derived.Below
import Derived.SizedLaws
set_option linter.unusedVariables false
namespace Go.Proofs.Ytecdngoknkmncaa.fnExactWaitsBefore
open Go.ChangeShapes Go.WideShapes Go.ChangeAt Go.RowKit Go.Proofs.YtecdngoknkmncaaW.PrintWords Go.Proofs.Ytecdngoknkmncaa.PA
open Go.ChangeMaps (open_string shut_string)
theorem own : ownKnob Try.prog.godebug = none := by kernel_rfl
theorem laidOut : laidOutB Try.prog = true := by kernel_rfl
theorem open_S52 {H : Type} {enc : TypeId × Value → H} {W : World} {base : Nat} {held : Bool} {t : TypeId} {a : Option Addr} {len cap : Nat} {d : DataW H} {ps : List MemPlace} (hu : Try.prog.underlying t = some (.slice 52))
    (h : DataW.Trod enc Try.prog W base (fun _ => true) held t (.slice a len cap) d ps) :
    ∃ l : List S52, len = l.length ∧ Kd.C k52 W a l.length l ∧ l.length ≤ cap ∧ l.length ≤ maxLen ∧ ∀ x ∈ l, (Lit.int .i64 x.f0).wf = true ∧ (Lit.int .i64 x.f1).wf = true := by
  obtain ⟨hl, hm, hg⟩ := Open.open_num_fields (k := .i64) hu Try.underlying52 (by kernel_rfl) (by kernel_rfl) (fun j f hj => by
    match j, hj with
    | 0, hj => obtain rfl := Option.some.inj hj; exact Try.underlying3
    | 1, hj => obtain rfl := Option.some.inj hj; exact Try.underlying3
    | j + 2, hj => simp at hj) h
  rcases Nat.eq_zero_or_pos len with h0 | h0
  · subst h0
    exact ⟨[], rfl, ⟨rfl, by simp, fun h => absurd h (by simp)⟩, Nat.zero_le _, Nat.zero_le _, fun x hx => by simp at hx⟩
  · obtain ⟨ad, rfl, g, hcell⟩ := hg h0
    have hcell : ∀ i j, i < len → j < 2 → W.cell? (ad.add (i * 2 + j)) = some (.int .i64 (g i j)) ∧ (Lit.int .i64 (g i j)).wf = true := hcell
    have e1 : ((List.range len).map fun i => (⟨g i 0, g i 1⟩ : S52)).length = len := by simp
    refine ⟨(List.range len).map fun i => (⟨g i 0, g i 1⟩ : S52), e1.symm, ⟨rfl, by rw [e1]; unfold maxLen at hm; omega, fun _ => ⟨ad, rfl, fun j p hj => ?_⟩⟩, by rw [e1]; exact hl, by rw [e1]; exact hm, fun x hx => ?_⟩
    · obtain ⟨hjl, hjp⟩ := List.getElem?_eq_some_iff.1 hj
      rw [e1] at hjl
      have hp : p = (⟨g j 0, g j 1⟩ : S52) := by rw [← hjp]; simp
      subst hp
      refine ⟨[.int .i64 (g j 0), .int .i64 (g j 1)], rfl, k52_mk W _, fun i u hu => ?_⟩
      show W.cell? (ad.add (j * 2 + i)) = some u
      match i, hu with
      | 0, hu => obtain rfl := Option.some.inj hu; exact (hcell j 0 hjl (by omega)).1
      | 1, hu => obtain rfl := Option.some.inj hu; exact (hcell j 1 hjl (by omega)).1
      | i + 2, hu => simp at hu
    · obtain ⟨j, hj, rfl⟩ := List.mem_map.1 hx
      have hj' := List.mem_range.1 hj
      exact ⟨(hcell j 0 hj' (by omega)).2, (hcell j 1 hj' (by omega)).2⟩
set_option maxRecDepth 100000 in
theorem lifted (os : Os) (started : os.Started) (H : Type) (enc : TypeId × Value → H) :
    ReturnsInHanded {} Try.checked os 6 .any (Rows.fnExactWaitsBeforeSpec.pre6 enc Try.prog Try.f6 Rows.fnExactWaitsBeforeRow.domain false) (Rows.fnExactWaitsBeforeSpec.post enc Try.prog Try.f6 false true false false) := by
  refine returnsInHanded_of_change_sized (C := Try.checked) own started (by kernel_rfl) Try.func6
    (ChangeSpec.witness6 (enc := enc) (C := Try.checked) false ⟨#[], #[.slice none 0 0, .slice none 0 0, .int .i64 0], []⟩ 8 (by kernel_rfl) (by kernel_rfl) (by kernel_rfl) (by kernel_rfl)) ?_
  intro W base args ds gs before hval0 hW hcnd hsz0 _
  have hsz : (DataW.weightsEach Try.prog (Try.f6.params.toList ++ Rows.fnExactWaitsBeforeSpec.plain.varTypes Try.prog) (ds ++ gs)).all (· ≤ reachBytes) = true := hsz0
  have hval : ∀ (j : Nat) t v, Try.f6.params[j]? = some t → args[j]? = some v → Value.okWide Try.prog W .any base t v := hval0
  have hW' := hW
  obtain ⟨p, q, hA0, hV, rfl, hfz, hnd⟩ := hW
  have hA : DataW.TrodAll enc Try.prog W 0 (fun _ => true) true Try.f6.params.toList args.toList ds p := hA0
  rw [Try.params6] at hA hval hsz
  obtain ⟨v0, vs0, d0, ds0, p0, q0, hargs, rfl, rfl, h0, r0⟩ := trodAll_cons hA
  obtain ⟨v1, vs1, d1, ds1, p1, q1, rfl, rfl, rfl, h1, r1⟩ := trodAll_cons r0
  obtain ⟨v2, vs2, d2, ds2, p2, q2, rfl, rfl, rfl, h2, r2⟩ := trodAll_cons r1
  obtain ⟨rfl, rfl, rfl⟩ := trodAll_nil r2
  obtain rfl : args = #[v0, v1, v2] := by cases args; simp_all
  obtain ⟨rfl, rfl⟩ := trodVars_none hV
  obtain ⟨a0, len0, cap0, rfl⟩ := okWide_slice Try.underlying31 (hval 0 31 v0 rfl rfl)
  have k0 := h0
  have lt0 : ∀ x ∈ p0, x.block < W.heap.size := by obtain ⟨m, hm⟩ := k0; exact DataW.trod_lt m _ _ _ hm
  obtain ⟨l0, rfl, hr0, hc0, hm0, hw0⟩ := open_S52 Try.underlying31 h0
  obtain ⟨a1, len1, cap1, rfl⟩ := okWide_slice Try.underlying22 (hval 1 22 v1 rfl rfl)
  have k1 := h1
  have lt1 : ∀ x ∈ p1, x.block < W.heap.size := by obtain ⟨m, hm⟩ := k1; exact DataW.trod_lt m _ _ _ hm
  obtain ⟨l1, rfl, hr1, hc1, hm1, hw1⟩ := Open.open_kd_ints Try.underlying22 Try.underlying3 (by kernel_rfl) h1
  obtain ⟨a2, rfl, rfl, rfl, w2⟩ := open_int Try.underlying3 (hval 2 3 v2 rfl rfl) h2
  clear hA0 hval0 hsz0 hsz
  obtain ⟨k, h⟩ := Q.q_FnExactWaitsBefore l0 hm0 hw0 l1 hm1 hw1 a2 w2
  refine (laws_FnExactWaitsBefore.calls k a0 cap0 l0 a1 cap1 l1 a2 true W hr0 hc0 hr1 hc1 h).mono fun e W' ⟨he, bel0⟩ => ?_
  have bel : Below W.heap.size W W' := bel0
  subst he
  exact ⟨_, rfl, _, _, _, [], _, [], hW', trodAll_mk1 (shut_bool Try.underlying4 _), (trodAll_cons_mk (Below.trod laidOut (by kernel_rfl) (of_decide_eq_true (by kernel_rfl)) k0 bel lt0) (trodAll_cons_mk (Below.trod laidOut (by kernel_rfl) (of_decide_eq_true (by kernel_rfl)) k1 bel lt1) (trodAll_cons_mk (shut_int Try.underlying3 w2) trodAll_mk0))), rfl, bel.frame _, fun h => by cases h⟩
def ch32 : Char := Char.ofNat 32
def ch46 : Char := Char.ofNat 46
def ch47 : Char := Char.ofNat 47
def ch48 : Char := Char.ofNat 48
def ch49 : Char := Char.ofNat 49
def ch50 : Char := Char.ofNat 50
def ch51 : Char := Char.ofNat 51
def ch52 : Char := Char.ofNat 52
def ch53 : Char := Char.ofNat 53
def ch54 : Char := Char.ofNat 54
def ch55 : Char := Char.ofNat 55
def ch56 : Char := Char.ofNat 56
def ch57 : Char := Char.ofNat 57
def ch65 : Char := Char.ofNat 65
def ch66 : Char := Char.ofNat 66
def ch69 : Char := Char.ofNat 69
def ch70 : Char := Char.ofNat 70
def ch74 : Char := Char.ofNat 74
def ch86 : Char := Char.ofNat 86
def ch87 : Char := Char.ofNat 87
def ch97 : Char := Char.ofNat 97
def ch98 : Char := Char.ofNat 98
def ch99 : Char := Char.ofNat 99
def ch100 : Char := Char.ofNat 100
def ch101 : Char := Char.ofNat 101
def ch102 : Char := Char.ofNat 102
def ch104 : Char := Char.ofNat 104
def ch105 : Char := Char.ofNat 105
def ch108 : Char := Char.ofNat 108
def ch109 : Char := Char.ofNat 109
def ch110 : Char := Char.ofNat 110
def ch111 : Char := Char.ofNat 111
def ch112 : Char := Char.ofNat 112
def ch114 : Char := Char.ofNat 114
def ch115 : Char := Char.ofNat 115
def ch116 : Char := Char.ofNat 116
def ch117 : Char := Char.ofNat 117
def ch119 : Char := Char.ofNat 119
def ch120 : Char := Char.ofNat 120
set_option maxRecDepth 100000 in
theorem initIs : Try.prog.initOrder = String.ofList [ch104, ch97, ch114, ch110, ch101, ch115, ch115, ch32, ch54, ch101, ch49, ch102, ch56, ch57, ch50, ch55, ch55, ch57, ch102, ch100, ch53, ch54, ch52, ch49, ch102, ch100, ch50, ch101, ch101, ch49, ch49, ch48, ch55, ch98, ch53, ch100, ch52, ch100, ch98, ch50, ch52, ch101, ch56, ch97, ch97, ch49, ch54, ch102, ch49, ch57, ch101, ch99, ch102, ch101, ch52, ch48, ch102, ch49, ch101, ch97, ch53, ch97, ch98, ch51, ch55, ch48, ch100, ch102, ch102, ch102, ch49, ch50, ch32, ch99, ch117, ch116, ch32, ch97, ch116, ch32, ch108, ch111, ch111, ch112, ch46, ch101, ch120, ch97, ch109, ch112, ch108, ch101, ch47, ch119, ch104, ch111, ch108, ch101, ch110, ch101, ch116, ch47, ch108, ch97, ch119, ch115, ch46, ch70, ch110, ch69, ch120, ch97, ch99, ch116, ch65, ch112, ch97, ch114, ch116, ch66, ch111, ch117, ch110, ch100, ch32, ch108, ch111, ch111, ch112, ch46, ch101, ch120, ch97, ch109, ch112, ch108, ch101, ch47, ch119, ch104, ch111, ch108, ch101, ch110, ch101, ch116, ch47, ch108, ch97, ch119, ch115, ch46, ch70, ch110, ch65, ch112, ch97, ch114, ch116, ch66, ch111, ch117, ch110, ch100, ch32, ch108, ch111, ch111, ch112, ch46, ch101, ch120, ch97, ch109, ch112, ch108, ch101, ch47, ch119, ch104, ch111, ch108, ch101, ch110, ch101, ch116, ch47, ch108, ch97, ch119, ch115, ch46, ch70, ch110, ch69, ch120, ch97, ch99, ch116, ch74, ch111, ch98, ch115, ch86, ch97, ch108, ch105, ch100, ch32, ch108, ch111, ch111, ch112, ch46, ch101, ch120, ch97, ch109, ch112, ch108, ch101, ch47, ch119, ch104, ch111, ch108, ch101, ch110, ch101, ch116, ch47, ch108, ch97, ch119, ch115, ch46, ch70, ch110, ch69, ch120, ch97, ch99, ch116, ch87, ch97, ch105, ch116, ch115, ch66, ch101, ch102, ch111, ch114, ch101, ch32, ch108, ch111, ch111, ch112, ch46, ch101, ch120, ch97, ch109, ch112, ch108, ch101, ch47, ch119, ch104, ch111, ch108, ch101, ch110, ch101, ch116, ch47, ch108, ch97, ch119, ch115, ch46, ch70, ch110, ch87, ch97, ch105, ch116, ch115] := by kernel_rfl
set_option maxRecDepth 100000 in
theorem initList : Try.prog.initOrder.toList = [ch104, ch97, ch114, ch110, ch101, ch115, ch115, ch32, ch54, ch101, ch49, ch102, ch56, ch57, ch50, ch55, ch55, ch57, ch102, ch100, ch53, ch54, ch52, ch49, ch102, ch100, ch50, ch101, ch101, ch49, ch49, ch48, ch55, ch98, ch53, ch100, ch52, ch100, ch98, ch50, ch52, ch101, ch56, ch97, ch97, ch49, ch54, ch102, ch49, ch57, ch101, ch99, ch102, ch101, ch52, ch48, ch102, ch49, ch101, ch97, ch53, ch97, ch98, ch51, ch55, ch48, ch100, ch102, ch102, ch102, ch49, ch50, ch32, ch99, ch117, ch116, ch32, ch97, ch116, ch32, ch108, ch111, ch111, ch112, ch46, ch101, ch120, ch97, ch109, ch112, ch108, ch101, ch47, ch119, ch104, ch111, ch108, ch101, ch110, ch101, ch116, ch47, ch108, ch97, ch119, ch115, ch46, ch70, ch110, ch69, ch120, ch97, ch99, ch116, ch65, ch112, ch97, ch114, ch116, ch66, ch111, ch117, ch110, ch100, ch32, ch108, ch111, ch111, ch112, ch46, ch101, ch120, ch97, ch109, ch112, ch108, ch101, ch47, ch119, ch104, ch111, ch108, ch101, ch110, ch101, ch116, ch47, ch108, ch97, ch119, ch115, ch46, ch70, ch110, ch65, ch112, ch97, ch114, ch116, ch66, ch111, ch117, ch110, ch100, ch32, ch108, ch111, ch111, ch112, ch46, ch101, ch120, ch97, ch109, ch112, ch108, ch101, ch47, ch119, ch104, ch111, ch108, ch101, ch110, ch101, ch116, ch47, ch108, ch97, ch119, ch115, ch46, ch70, ch110, ch69, ch120, ch97, ch99, ch116, ch74, ch111, ch98, ch115, ch86, ch97, ch108, ch105, ch100, ch32, ch108, ch111, ch111, ch112, ch46, ch101, ch120, ch97, ch109, ch112, ch108, ch101, ch47, ch119, ch104, ch111, ch108, ch101, ch110, ch101, ch116, ch47, ch108, ch97, ch119, ch115, ch46, ch70, ch110, ch69, ch120, ch97, ch99, ch116, ch87, ch97, ch105, ch116, ch115, ch66, ch101, ch102, ch111, ch114, ch101, ch32, ch108, ch111, ch111, ch112, ch46, ch101, ch120, ch97, ch109, ch112, ch108, ch101, ch47, ch119, ch104, ch111, ch108, ch101, ch110, ch101, ch116, ch47, ch108, ch97, ch119, ch115, ch46, ch70, ch110, ch87, ch97, ch105, ch116, ch115] := (congrArg String.toList initIs).trans String.toList_ofList
set_option maxRecDepth 100000 in
theorem initWords : wordsSigns Try.prog.initOrder.toList = [[ch104, ch97, ch114, ch110, ch101, ch115, ch115], [ch54, ch101, ch49, ch102, ch56, ch57, ch50, ch55, ch55, ch57, ch102, ch100, ch53, ch54, ch52, ch49, ch102, ch100, ch50, ch101, ch101, ch49, ch49, ch48, ch55, ch98, ch53, ch100, ch52, ch100, ch98, ch50, ch52, ch101, ch56, ch97, ch97, ch49, ch54, ch102, ch49, ch57, ch101, ch99, ch102, ch101, ch52, ch48, ch102, ch49, ch101, ch97, ch53, ch97, ch98, ch51, ch55, ch48, ch100, ch102, ch102, ch102, ch49, ch50], [ch99, ch117, ch116], [ch97, ch116], [ch108, ch111, ch111, ch112, ch46, ch101, ch120, ch97, ch109, ch112, ch108, ch101, ch47, ch119, ch104, ch111, ch108, ch101, ch110, ch101, ch116, ch47, ch108, ch97, ch119, ch115, ch46, ch70, ch110, ch69, ch120, ch97, ch99, ch116, ch65, ch112, ch97, ch114, ch116, ch66, ch111, ch117, ch110, ch100], [ch108, ch111, ch111, ch112, ch46, ch101, ch120, ch97, ch109, ch112, ch108, ch101, ch47, ch119, ch104, ch111, ch108, ch101, ch110, ch101, ch116, ch47, ch108, ch97, ch119, ch115, ch46, ch70, ch110, ch65, ch112, ch97, ch114, ch116, ch66, ch111, ch117, ch110, ch100], [ch108, ch111, ch111, ch112, ch46, ch101, ch120, ch97, ch109, ch112, ch108, ch101, ch47, ch119, ch104, ch111, ch108, ch101, ch110, ch101, ch116, ch47, ch108, ch97, ch119, ch115, ch46, ch70, ch110, ch69, ch120, ch97, ch99, ch116, ch74, ch111, ch98, ch115, ch86, ch97, ch108, ch105, ch100], [ch108, ch111, ch111, ch112, ch46, ch101, ch120, ch97, ch109, ch112, ch108, ch101, ch47, ch119, ch104, ch111, ch108, ch101, ch110, ch101, ch116, ch47, ch108, ch97, ch119, ch115, ch46, ch70, ch110, ch69, ch120, ch97, ch99, ch116, ch87, ch97, ch105, ch116, ch115, ch66, ch101, ch102, ch111, ch114, ch101], [ch108, ch111, ch111, ch112, ch46, ch101, ch120, ch97, ch109, ch112, ch108, ch101, ch47, ch119, ch104, ch111, ch108, ch101, ch110, ch101, ch116, ch47, ch108, ch97, ch119, ch115, ch46, ch70, ch110, ch87, ch97, ch105, ch116, ch115]] := (congrArg wordsSigns initList).trans (by kernel_rfl)
def rest_ : List (List Char) := [[ch97, ch116], [ch108, ch111, ch111, ch112, ch46, ch101, ch120, ch97, ch109, ch112, ch108, ch101, ch47, ch119, ch104, ch111, ch108, ch101, ch110, ch101, ch116, ch47, ch108, ch97, ch119, ch115, ch46, ch70, ch110, ch69, ch120, ch97, ch99, ch116, ch65, ch112, ch97, ch114, ch116, ch66, ch111, ch117, ch110, ch100], [ch108, ch111, ch111, ch112, ch46, ch101, ch120, ch97, ch109, ch112, ch108, ch101, ch47, ch119, ch104, ch111, ch108, ch101, ch110, ch101, ch116, ch47, ch108, ch97, ch119, ch115, ch46, ch70, ch110, ch65, ch112, ch97, ch114, ch116, ch66, ch111, ch117, ch110, ch100], [ch108, ch111, ch111, ch112, ch46, ch101, ch120, ch97, ch109, ch112, ch108, ch101, ch47, ch119, ch104, ch111, ch108, ch101, ch110, ch101, ch116, ch47, ch108, ch97, ch119, ch115, ch46, ch70, ch110, ch69, ch120, ch97, ch99, ch116, ch74, ch111, ch98, ch115, ch86, ch97, ch108, ch105, ch100], [ch108, ch111, ch111, ch112, ch46, ch101, ch120, ch97, ch109, ch112, ch108, ch101, ch47, ch119, ch104, ch111, ch108, ch101, ch110, ch101, ch116, ch47, ch108, ch97, ch119, ch115, ch46, ch70, ch110, ch69, ch120, ch97, ch99, ch116, ch87, ch97, ch105, ch116, ch115, ch66, ch101, ch102, ch111, ch114, ch101], [ch108, ch111, ch111, ch112, ch46, ch101, ch120, ch97, ch109, ch112, ch108, ch101, ch47, ch119, ch104, ch111, ch108, ch101, ch110, ch101, ch116, ch47, ch108, ch97, ch119, ch115, ch46, ch70, ch110, ch87, ch97, ch105, ch116, ch115]]
def cut_ : List Char := [ch99, ch117, ch116]
theorem behind_ : behindMainWord (wordsSigns Try.prog.initOrder.toList) = cut_ :: rest_ := (congrArg behindMainWord initWords).trans (by kernel_rfl)
theorem strip_ : stripLifts liftWords (cut_ :: rest_) = ([], cut_ :: rest_) := by kernel_rfl
theorem enter_of {P : Program} {c0 : List Char} {rest : List (List Char)} (h : behindMainWord (wordsSigns P.initOrder.toList) = c0 :: rest) (hs : stripLifts liftWords (c0 :: rest) = ([], c0 :: rest)) (hq : ((c0 :: rest).head? == some "cut".toList) = true) (hl : P.laysLater = false) (hb : P.bearsReflect = false) (hd : P.doorFits [] = true) : P.mayEnter = true := by
  unfold Program.mayEnter
  rw [h]
  simp only [hs, hq, hl, hb, hd]
  simp
theorem lifts_of {P : Program} {c0 : List Char} {rest : List (List Char)} (h : behindMainWord (wordsSigns P.initOrder.toList) = c0 :: rest) (hs : stripLifts liftWords (c0 :: rest) = ([], c0 :: rest)) : P.headLifts = [] := by
  unfold Program.headLifts
  rw [h, hs]
  simp
theorem final_of {P : Program} {c0 : List Char} {rest : List (List Char)} (h : behindMainWord (wordsSigns P.initOrder.toList) = c0 :: rest) (hs : stripLifts liftWords (c0 :: rest) = ([], c0 :: rest)) (hq : ((c0 :: rest).head? == some "carried".toList) = false) : P.liftsFinal = false := by
  unfold Program.liftsFinal
  rw [h, lifts_of h hs]
  simp only [hq]
  simp
theorem make_of {P : Program} {c0 : List Char} {rest : List (List Char)} (h : behindMainWord (wordsSigns P.initOrder.toList) = c0 :: rest) (h1 : (c0 == "gc".toList || c0 == "spec".toList) = false) (h2 : (c0 == "cut".toList || (c0 == "finals".toList && rest.head? == some "cut".toList)) = true) : P.make = some .cut := by
  unfold Program.make
  rw [h]
  simp only [h1, h2]
  simp
theorem enters : Program.mayEnter Try.prog = true := enter_of behind_ strip_ (by kernel_rfl) (by kernel_rfl) (by kernel_rfl) (by kernel_rfl)
theorem finals : Program.liftsFinal Try.prog = false := final_of behind_ strip_ (by kernel_rfl)
theorem makes : Program.make Try.prog = some .cut := make_of behind_ (by kernel_rfl) (by kernel_rfl)
theorem closed_ : joinedFacts Try.prog 6 Try.f6 Rows.fnExactWaitsBeforeSpec Rows.fnExactWaitsBeforeRow = true := by
  unfold joinedFacts
  rw [enters, finals, makes]
  kernel_rfl
theorem over : Rows.fnExactWaitsBeforeRow.holds Try.pinned (OpenSpec.ofChange Rows.fnExactWaitsBeforeSpec) :=
  OpenClaim.holds_of_wide 6 Try.f6 rfl rfl rfl rfl rfl rfl rfl ⟨rfl, rfl, rfl, rfl, rfl⟩ rfl rfl rfl rfl rfl (by kernel_rfl) Try.func6 closed_
    (of_decide_eq_true (by kernel_rfl)) (by unfold Func.isWrapper; first | (rw [if_pos (by decide +kernel)]; kernel_rfl) | (rw [if_neg (by decide +kernel)]; exact ⟨rfl, rfl⟩))
    (fun os started H enc _ => lifted os started H enc)
theorem proved : Rows.FnExactWaitsBeforeSaid := over
#print axioms proved
end Go.Proofs.Ytecdngoknkmncaa.fnExactWaitsBefore
namespace Go.Proofs.Ytecdngoknkmncaa
/-- The row, under a short name, for the claim. -/
theorem fnExactWaitsBefore_holds : Rows.FnExactWaitsBeforeSaid := fnExactWaitsBefore.proved
end Go.Proofs.Ytecdngoknkmncaa
