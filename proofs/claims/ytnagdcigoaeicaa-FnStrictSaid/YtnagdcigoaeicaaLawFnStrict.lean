-- Laid by this session's own program (pr.py) over the translation; Lean checks it.
import Derived.Test.YtnagdcigoaeicaaRows
import Derived.Test.YtnagdcigoaeicaaPA6
import Derived.Test.YtnagdcigoaeicaaPureFnStrict
import Derived.WalkKit
import Derived.ProofKit
import Derived.OpenShut
import Derived.ShutString
import Derived.ChangeOld
import Derived.Below
import Derived.SizedLaws
import Derived.Test.YtnagdcigoaeicaaWSized
namespace Go.Proofs.Ytnagdcigoaeicaa.fnStrict
open Go.ChangeShapes Go.WideShapes Go.ChangeAt Go.RowKit
open Go.ChangeMaps (open_string shut_string)
set_option linter.unusedVariables false
theorem own : ownKnob Try.prog.godebug = none := by kernel_rfl
theorem laidOut : laidOutB Try.prog = true := by kernel_rfl
def IsRow (k : IntKind) (w : World) (a : Option Addr) (len cap : Nat) (zs : List Int) : Prop :=
 (a = none ∧ len = 0 ∧ cap = 0 ∧ zs = []) ∨
 ∃ x, a = some x ∧ len ≤ cap ∧ cap ≤ maxLen ∧ zs.length = cap ∧ (∀ i, i < zs.length → w.cell? (x.add i) = some (.int k (zs.getD i 0))) ∧ ∀ n ∈ zs, (Lit.int k n).wf = true
set_option maxRecDepth 100000 in
theorem lifted (os : Os) (started : os.Started) (H : Type) (enc : TypeId × Value → H) :
  ReturnsInHanded {} Try.checked os 3 .any (Rows.fnStrictSpec.pre6 enc Try.prog Try.f3 Rows.fnStrictRow.domain false) (Rows.fnStrictSpec.post enc Try.prog Try.f3 false true false false) := by
 refine returnsInHanded_of_change_sized (C := Try.checked) own started (by kernel_rfl) Try.func3
  (ChangeSpec.witness6 (enc := enc) (C := Try.checked) false ⟨#[], #[.slice none 0 0], []⟩ 8 (by kernel_rfl) (by kernel_rfl) (by kernel_rfl) (by kernel_rfl)) ?_
 intro W base args ds gs before hval0 hW hcnd hsz0 _
 have hsz : (DataW.weightsEach Try.prog (Try.f3.params.toList ++ Rows.fnStrictSpec.plain.varTypes Try.prog) (ds ++ gs)).all (· ≤ reachBytes) = true := hsz0
 have hval : ∀ (j : Nat) t v, Try.f3.params[j]? = some t → args[j]? = some v → Value.okWide Try.prog W .any base t v := hval0
 have hW' := hW
 obtain ⟨p, q, hA0, hV, rfl, hfz, hnd⟩ := hW
 have hA : DataW.TrodAll enc Try.prog W 0 (fun _ => true) true Try.f3.params.toList args.toList ds p := hA0
 rw [Try.params3] at hA hval hsz
 obtain ⟨v0, vs0, d0, ds0, p0, q0, hargs, rfl, rfl, h0, r0⟩ := trodAll_cons hA
 obtain ⟨rfl, rfl, rfl⟩ := trodAll_nil r0
 obtain rfl : args = #[v0] := by cases args; simp_all
 obtain ⟨rfl, rfl⟩ := trodVars_none hV
 obtain ⟨a0, len0, cap0, rfl⟩ := okWide_slice Try.underlying22 (hval 0 22 v0 rfl rfl)
 have k0 := h0
 have lt0 : ∀ x ∈ p0, x.block < W.heap.size := by obtain ⟨m, hm⟩ := k0; exact DataW.trod_lt m _ _ _ hm
 obtain ⟨z0, w0⟩ : ∃ zs, IsRow .u8 W a0 len0 cap0 zs := by
  obtain ⟨fuel, hf⟩ := h0
  rcases open_ints Try.underlying22 Try.underlying5 (by kernel_rfl) hf with ⟨hcs, _⟩ | ⟨x, l, c, zs, hcs, _, hl, hm, hz, _, hcell, hwz⟩
  ·simp [Value.cells] at hcs
   obtain ⟨rfl, rfl, rfl⟩ := hcs
   exact ⟨[], .inl ⟨rfl, rfl, rfl, rfl⟩⟩
  ·simp [Value.cells] at hcs
   obtain ⟨rfl, rfl, rfl⟩ := hcs
   exact ⟨zs, .inr ⟨_, rfl, hl, hm, by simpa using hz, hcell, hwz⟩⟩
 have y0 : len0 * 1 ≤ 140737488351232 := Go.Proofs.YtnagdcigoaeicaaW.PrintWords.sized_ints hsz (j := 0) (t := 22) rfl rfl Try.underlying22 Try.underlying5 (by kernel_rfl) (by kernel_rfl) h0
 clear hA0 hval0 hsz0 hsz
 refine (PA.laws_FnStrict.walk Pure.FnStrict a0 len0 cap0 z0 W w0 y0).mono fun e W' ⟨he, bel⟩ => ?_
 subst he
 exact ⟨_, rfl, _, _, _, [], _, [], hW', trodAll_mk1 (shut_bool Try.underlying4 _), (trodAll_cons_mk (Below.trod laidOut (by kernel_rfl) (of_decide_eq_true (by kernel_rfl)) k0 bel lt0) trodAll_mk0), rfl, bel.frame _, fun h => by cases h⟩
def ch32 : Char := Char.ofNat 32
def ch46 : Char := Char.ofNat 46
def ch47 : Char := Char.ofNat 47
def ch48 : Char := Char.ofNat 48
def ch49 : Char := Char.ofNat 49
def ch50 : Char := Char.ofNat 50
def ch51 : Char := Char.ofNat 51
def ch52 : Char := Char.ofNat 52
def ch53 : Char := Char.ofNat 53
def ch54 : Char := Char.ofNat 54
def ch55 : Char := Char.ofNat 55
def ch56 : Char := Char.ofNat 56
def ch57 : Char := Char.ofNat 57
def ch65 : Char := Char.ofNat 65
def ch66 : Char := Char.ofNat 66
def ch69 : Char := Char.ofNat 69
def ch70 : Char := Char.ofNat 70
def ch83 : Char := Char.ofNat 83
def ch97 : Char := Char.ofNat 97
def ch98 : Char := Char.ofNat 98
def ch99 : Char := Char.ofNat 99
def ch100 : Char := Char.ofNat 100
def ch101 : Char := Char.ofNat 101
def ch102 : Char := Char.ofNat 102
def ch104 : Char := Char.ofNat 104
def ch105 : Char := Char.ofNat 105
def ch108 : Char := Char.ofNat 108
def ch109 : Char := Char.ofNat 109
def ch110 : Char := Char.ofNat 110
def ch111 : Char := Char.ofNat 111
def ch112 : Char := Char.ofNat 112
def ch114 : Char := Char.ofNat 114
def ch115 : Char := Char.ofNat 115
def ch116 : Char := Char.ofNat 116
def ch117 : Char := Char.ofNat 117
def ch118 : Char := Char.ofNat 118
def ch119 : Char := Char.ofNat 119
def ch120 : Char := Char.ofNat 120
def ch121 : Char := Char.ofNat 121
set_option maxRecDepth 100000 in
theorem initIs : Try.prog.initOrder = String.ofList [ch104, ch97, ch114, ch110, ch101, ch115, ch115, ch32, ch48, ch48, ch100, ch53, ch49, ch50, ch97, ch101, ch48, ch50, ch53, ch48, ch97, ch97, ch101, ch55, ch54, ch55, ch50, ch100, ch57, ch102, ch100, ch51, ch48, ch100, ch98, ch97, ch99, ch55, ch101, ch54, ch101, ch54, ch53, ch51, ch100, ch53, ch97, ch100, ch102, ch57, ch52, ch51, ch97, ch53, ch97, ch54, ch51, ch55, ch97, ch50, ch48, ch97, ch56, ch53, ch100, ch102, ch102, ch50, ch54, ch51, ch52, ch102, ch32, ch99, ch117, ch116, ch32, ch97, ch116, ch32, ch108, ch111, ch111, ch112, ch46, ch101, ch120, ch97, ch109, ch112, ch108, ch101, ch47, ch119, ch104, ch111, ch108, ch101, ch110, ch101, ch116, ch47, ch108, ch97, ch119, ch115, ch46, ch70, ch110, ch83, ch116, ch114, ch105, ch99, ch116, ch32, ch108, ch111, ch111, ch112, ch46, ch101, ch120, ch97, ch109, ch112, ch108, ch101, ch47, ch119, ch104, ch111, ch108, ch101, ch110, ch101, ch116, ch47, ch108, ch97, ch119, ch115, ch46, ch70, ch110, ch83, ch101, ch114, ch118, ch101, ch100, ch32, ch108, ch111, ch111, ch112, ch46, ch101, ch120, ch97, ch109, ch112, ch108, ch101, ch47, ch119, ch104, ch111, ch108, ch101, ch110, ch101, ch116, ch47, ch108, ch97, ch119, ch115, ch46, ch70, ch110, ch69, ch120, ch97, ch99, ch116, ch83, ch101, ch114, ch118, ch101, ch100, ch66, ch121, ch32, ch108, ch111, ch111, ch112, ch46, ch101, ch120, ch97, ch109, ch112, ch108, ch101, ch47, ch119, ch104, ch111, ch108, ch101, ch110, ch101, ch116, ch47, ch108, ch97, ch119, ch115, ch46, ch70, ch110, ch70, ch97, ch105, ch114, ch65, ch108, ch108] := by kernel_rfl
set_option maxRecDepth 100000 in
theorem initList : Try.prog.initOrder.toList = [ch104, ch97, ch114, ch110, ch101, ch115, ch115, ch32, ch48, ch48, ch100, ch53, ch49, ch50, ch97, ch101, ch48, ch50, ch53, ch48, ch97, ch97, ch101, ch55, ch54, ch55, ch50, ch100, ch57, ch102, ch100, ch51, ch48, ch100, ch98, ch97, ch99, ch55, ch101, ch54, ch101, ch54, ch53, ch51, ch100, ch53, ch97, ch100, ch102, ch57, ch52, ch51, ch97, ch53, ch97, ch54, ch51, ch55, ch97, ch50, ch48, ch97, ch56, ch53, ch100, ch102, ch102, ch50, ch54, ch51, ch52, ch102, ch32, ch99, ch117, ch116, ch32, ch97, ch116, ch32, ch108, ch111, ch111, ch112, ch46, ch101, ch120, ch97, ch109, ch112, ch108, ch101, ch47, ch119, ch104, ch111, ch108, ch101, ch110, ch101, ch116, ch47, ch108, ch97, ch119, ch115, ch46, ch70, ch110, ch83, ch116, ch114, ch105, ch99, ch116, ch32, ch108, ch111, ch111, ch112, ch46, ch101, ch120, ch97, ch109, ch112, ch108, ch101, ch47, ch119, ch104, ch111, ch108, ch101, ch110, ch101, ch116, ch47, ch108, ch97, ch119, ch115, ch46, ch70, ch110, ch83, ch101, ch114, ch118, ch101, ch100, ch32, ch108, ch111, ch111, ch112, ch46, ch101, ch120, ch97, ch109, ch112, ch108, ch101, ch47, ch119, ch104, ch111, ch108, ch101, ch110, ch101, ch116, ch47, ch108, ch97, ch119, ch115, ch46, ch70, ch110, ch69, ch120, ch97, ch99, ch116, ch83, ch101, ch114, ch118, ch101, ch100, ch66, ch121, ch32, ch108, ch111, ch111, ch112, ch46, ch101, ch120, ch97, ch109, ch112, ch108, ch101, ch47, ch119, ch104, ch111, ch108, ch101, ch110, ch101, ch116, ch47, ch108, ch97, ch119, ch115, ch46, ch70, ch110, ch70, ch97, ch105, ch114, ch65, ch108, ch108] := (congrArg String.toList initIs).trans String.toList_ofList
set_option maxRecDepth 100000 in
theorem initWords : wordsSigns Try.prog.initOrder.toList = [[ch104, ch97, ch114, ch110, ch101, ch115, ch115], [ch48, ch48, ch100, ch53, ch49, ch50, ch97, ch101, ch48, ch50, ch53, ch48, ch97, ch97, ch101, ch55, ch54, ch55, ch50, ch100, ch57, ch102, ch100, ch51, ch48, ch100, ch98, ch97, ch99, ch55, ch101, ch54, ch101, ch54, ch53, ch51, ch100, ch53, ch97, ch100, ch102, ch57, ch52, ch51, ch97, ch53, ch97, ch54, ch51, ch55, ch97, ch50, ch48, ch97, ch56, ch53, ch100, ch102, ch102, ch50, ch54, ch51, ch52, ch102], [ch99, ch117, ch116], [ch97, ch116], [ch108, ch111, ch111, ch112, ch46, ch101, ch120, ch97, ch109, ch112, ch108, ch101, ch47, ch119, ch104, ch111, ch108, ch101, ch110, ch101, ch116, ch47, ch108, ch97, ch119, ch115, ch46, ch70, ch110, ch83, ch116, ch114, ch105, ch99, ch116], [ch108, ch111, ch111, ch112, ch46, ch101, ch120, ch97, ch109, ch112, ch108, ch101, ch47, ch119, ch104, ch111, ch108, ch101, ch110, ch101, ch116, ch47, ch108, ch97, ch119, ch115, ch46, ch70, ch110, ch83, ch101, ch114, ch118, ch101, ch100], [ch108, ch111, ch111, ch112, ch46, ch101, ch120, ch97, ch109, ch112, ch108, ch101, ch47, ch119, ch104, ch111, ch108, ch101, ch110, ch101, ch116, ch47, ch108, ch97, ch119, ch115, ch46, ch70, ch110, ch69, ch120, ch97, ch99, ch116, ch83, ch101, ch114, ch118, ch101, ch100, ch66, ch121], [ch108, ch111, ch111, ch112, ch46, ch101, ch120, ch97, ch109, ch112, ch108, ch101, ch47, ch119, ch104, ch111, ch108, ch101, ch110, ch101, ch116, ch47, ch108, ch97, ch119, ch115, ch46, ch70, ch110, ch70, ch97, ch105, ch114, ch65, ch108, ch108]] := (congrArg wordsSigns initList).trans (by kernel_rfl)
def rest_ : List (List Char) := [[ch97, ch116], [ch108, ch111, ch111, ch112, ch46, ch101, ch120, ch97, ch109, ch112, ch108, ch101, ch47, ch119, ch104, ch111, ch108, ch101, ch110, ch101, ch116, ch47, ch108, ch97, ch119, ch115, ch46, ch70, ch110, ch83, ch116, ch114, ch105, ch99, ch116], [ch108, ch111, ch111, ch112, ch46, ch101, ch120, ch97, ch109, ch112, ch108, ch101, ch47, ch119, ch104, ch111, ch108, ch101, ch110, ch101, ch116, ch47, ch108, ch97, ch119, ch115, ch46, ch70, ch110, ch83, ch101, ch114, ch118, ch101, ch100], [ch108, ch111, ch111, ch112, ch46, ch101, ch120, ch97, ch109, ch112, ch108, ch101, ch47, ch119, ch104, ch111, ch108, ch101, ch110, ch101, ch116, ch47, ch108, ch97, ch119, ch115, ch46, ch70, ch110, ch69, ch120, ch97, ch99, ch116, ch83, ch101, ch114, ch118, ch101, ch100, ch66, ch121], [ch108, ch111, ch111, ch112, ch46, ch101, ch120, ch97, ch109, ch112, ch108, ch101, ch47, ch119, ch104, ch111, ch108, ch101, ch110, ch101, ch116, ch47, ch108, ch97, ch119, ch115, ch46, ch70, ch110, ch70, ch97, ch105, ch114, ch65, ch108, ch108]]
def cut_ : List Char := [ch99, ch117, ch116]
theorem behind_ : behindMainWord (wordsSigns Try.prog.initOrder.toList) = cut_ :: rest_ := (congrArg behindMainWord initWords).trans (by kernel_rfl)
theorem strip_ : stripLifts liftWords (cut_ :: rest_) = ([], cut_ :: rest_) := by kernel_rfl
theorem enter_of {P : Program} {c0 : List Char} {rest : List (List Char)} (h : behindMainWord (wordsSigns P.initOrder.toList) = c0 :: rest) (hs : stripLifts liftWords (c0 :: rest) = ([], c0 :: rest)) (hq : ((c0 :: rest).head? == some "cut".toList) = true) (hl : P.laysLater = false) (hb : P.bearsReflect = false) (hd : P.doorFits [] = true) : P.mayEnter = true := by
  unfold Program.mayEnter
  rw [h]
  simp only [hs, hq, hl, hb, hd]
  simp
theorem lifts_of {P : Program} {c0 : List Char} {rest : List (List Char)} (h : behindMainWord (wordsSigns P.initOrder.toList) = c0 :: rest) (hs : stripLifts liftWords (c0 :: rest) = ([], c0 :: rest)) : P.headLifts = [] := by
  unfold Program.headLifts
  rw [h, hs]
  simp
theorem final_of {P : Program} {c0 : List Char} {rest : List (List Char)} (h : behindMainWord (wordsSigns P.initOrder.toList) = c0 :: rest) (hs : stripLifts liftWords (c0 :: rest) = ([], c0 :: rest)) (hq : ((c0 :: rest).head? == some "carried".toList) = false) : P.liftsFinal = false := by
  unfold Program.liftsFinal
  rw [h, lifts_of h hs]
  simp only [hq]
  simp
theorem make_of {P : Program} {c0 : List Char} {rest : List (List Char)} (h : behindMainWord (wordsSigns P.initOrder.toList) = c0 :: rest) (h1 : (c0 == "gc".toList || c0 == "spec".toList) = false) (h2 : (c0 == "cut".toList || (c0 == "finals".toList && rest.head? == some "cut".toList)) = true) : P.make = some .cut := by
  unfold Program.make
  rw [h]
  simp only [h1, h2]
  simp
theorem enters : Program.mayEnter Try.prog = true := enter_of behind_ strip_ (by kernel_rfl) (by kernel_rfl) (by kernel_rfl) (by kernel_rfl)
theorem finals : Program.liftsFinal Try.prog = false := final_of behind_ strip_ (by kernel_rfl)
theorem makes : Program.make Try.prog = some .cut := make_of behind_ (by kernel_rfl) (by kernel_rfl)
theorem closed_ : joinedFacts Try.prog 3 Try.f3 Rows.fnStrictSpec Rows.fnStrictRow = true := by
  unfold joinedFacts
  rw [enters, finals, makes]
  kernel_rfl
theorem over : Rows.fnStrictRow.holds Try.pinned (OpenSpec.ofChange Rows.fnStrictSpec) :=
 OpenClaim.holds_of_wide 3 Try.f3 rfl rfl rfl rfl rfl rfl rfl ⟨rfl, rfl, rfl, rfl, rfl⟩ rfl rfl rfl rfl rfl (by kernel_rfl) Try.func3 closed_
  (of_decide_eq_true (by kernel_rfl)) (by unfold Func.isWrapper; first | (rw [if_pos (by decide +kernel)]; kernel_rfl) | (rw [if_neg (by decide +kernel)]; exact ⟨rfl, rfl⟩))
  (fun os started H enc _ => lifted os started H enc)
theorem proved : Rows.FnStrictSaid := over
#print axioms proved
end Go.Proofs.Ytnagdcigoaeicaa.fnStrict
namespace Go.Proofs.Ytnagdcigoaeicaa
/-- The row, under a short name, for the claim. -/
theorem fnStrict_holds : Rows.FnStrictSaid := fnStrict.proved
end Go.Proofs.Ytnagdcigoaeicaa
