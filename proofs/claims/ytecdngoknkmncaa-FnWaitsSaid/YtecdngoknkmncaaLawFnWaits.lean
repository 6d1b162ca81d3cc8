-- Laid by this session's own program (pr.py) over the translation; Lean checks it.
import Derived.Test.YtecdngoknkmncaaRows
import Derived.Test.YtecdngoknkmncaaPA16
import Derived.Test.YtecdngoknkmncaaPureFnWaits
import Derived.WalkKit
import Derived.ProofKit
import Derived.OpenShut
import Derived.ShutString
import Derived.ChangeOld
import Derived.Below
import Derived.SizedLaws
import Derived.Test.YtecdngoknkmncaaWSized
namespace Go.Proofs.Ytecdngoknkmncaa.fnWaits
open Go.ChangeShapes Go.WideShapes Go.ChangeAt Go.RowKit
open Go.ChangeMaps (open_string shut_string)
set_option linter.unusedVariables false
theorem own : ownKnob Try.prog.godebug = none := by kernel_rfl
theorem laidOut : laidOutB Try.prog = true := by kernel_rfl
def IsRow (k : IntKind) (w : World) (a : Option Addr) (len cap : Nat) (zs : List Int) : Prop :=
 (a = none ∧ len = 0 ∧ cap = 0 ∧ zs = []) ∨
 ∃ x, a = some x ∧ len ≤ cap ∧ cap ≤ maxLen ∧ zs.length = cap ∧ (∀ i, i < zs.length → w.cell? (x.add i) = some (.int k (zs.getD i 0))) ∧ ∀ n ∈ zs, (Lit.int k n).wf = true
set_option maxRecDepth 100000 in
theorem lifted (os : Os) (started : os.Started) (H : Type) (enc : TypeId × Value → H) :
  ReturnsInHanded {} Try.checked os 7 .any (Rows.fnWaitsSpec.pre6 enc Try.prog Try.f7 Rows.fnWaitsRow.domain false) (Rows.fnWaitsSpec.post enc Try.prog Try.f7 false true false false) := by
 refine returnsInHanded_of_change_sized (C := Try.checked) own started (by kernel_rfl) Try.func7
  (ChangeSpec.witness6 (enc := enc) (C := Try.checked) false ⟨#[], #[.slice none 0 0], []⟩ 8 (by kernel_rfl) (by kernel_rfl) (by kernel_rfl) (by kernel_rfl)) ?_
 intro W base args ds gs before hval0 hW hcnd hsz0 _
 have hsz : (DataW.weightsEach Try.prog (Try.f7.params.toList ++ Rows.fnWaitsSpec.plain.varTypes Try.prog) (ds ++ gs)).all (· ≤ reachBytes) = true := hsz0
 have hval : ∀ (j : Nat) t v, Try.f7.params[j]? = some t → args[j]? = some v → Value.okWide Try.prog W .any base t v := hval0
 have hW' := hW
 obtain ⟨p, q, hA0, hV, rfl, hfz, hnd⟩ := hW
 have hA : DataW.TrodAll enc Try.prog W 0 (fun _ => true) true Try.f7.params.toList args.toList ds p := hA0
 rw [Try.params7] at hA hval hsz
 obtain ⟨v0, vs0, d0, ds0, p0, q0, hargs, rfl, rfl, h0, r0⟩ := trodAll_cons hA
 obtain ⟨rfl, rfl, rfl⟩ := trodAll_nil r0
 obtain rfl : args = #[v0] := by cases args; simp_all
 obtain ⟨rfl, rfl⟩ := trodVars_none hV
 obtain ⟨a0, len0, cap0, rfl⟩ := okWide_slice Try.underlying27 (hval 0 27 v0 rfl rfl)
 have k0 := h0
 have lt0 : ∀ x ∈ p0, x.block < W.heap.size := by obtain ⟨m, hm⟩ := k0; exact DataW.trod_lt m _ _ _ hm
 obtain ⟨z0, w0⟩ : ∃ zs, IsRow .u8 W a0 len0 cap0 zs := by
  obtain ⟨fuel, hf⟩ := h0
  rcases open_ints Try.underlying27 Try.underlying5 (by kernel_rfl) hf with ⟨hcs, _⟩ | ⟨x, l, c, zs, hcs, _, hl, hm, hz, _, hcell, hwz⟩
  ·simp [Value.cells] at hcs
   obtain ⟨rfl, rfl, rfl⟩ := hcs
   exact ⟨[], .inl ⟨rfl, rfl, rfl, rfl⟩⟩
  ·simp [Value.cells] at hcs
   obtain ⟨rfl, rfl, rfl⟩ := hcs
   exact ⟨zs, .inr ⟨_, rfl, hl, hm, by simpa using hz, hcell, hwz⟩⟩
 have y0 : len0 * 1 ≤ 140737488351232 := Go.Proofs.YtecdngoknkmncaaW.PrintWords.sized_ints hsz (j := 0) (t := 27) rfl rfl Try.underlying27 Try.underlying5 (by kernel_rfl) (by kernel_rfl) h0
 clear hA0 hval0 hsz0 hsz
 refine (PA.laws_FnWaits.walk Pure.FnWaits a0 len0 cap0 z0 W w0 y0).mono fun e W' ⟨he, bel⟩ => ?_
 subst he
 exact ⟨_, rfl, _, _, _, [], _, [], hW', trodAll_mk1 (shut_bool Try.underlying4 _), (trodAll_cons_mk (Below.trod laidOut (by kernel_rfl) (of_decide_eq_true (by kernel_rfl)) k0 bel lt0) trodAll_mk0), rfl, bel.frame _, fun h => by cases h⟩
set_option maxRecDepth 100000 in
theorem initIs : Try.prog.initOrder = String.ofList ['h', 'a', 'r', 'n', 'e', 's', 's', ' ', '6', 'e', '1', 'f', '8', '9', '2', '7', '7', '9', 'f', 'd', '5', '6', '4', '1', 'f', 'd', '2', 'e', 'e', '1', '1', '0', '7', 'b', '5', 'd', '4', 'd', 'b', '2', '4', 'e', '8', 'a', 'a', '1', '6', 'f', '1', '9', 'e', 'c', 'f', 'e', '4', '0', 'f', '1', 'e', 'a', '5', 'a', 'b', '3', '7', '0', 'd', 'f', 'f', 'f', '1', '2', ' ', 'c', 'u', 't', ' ', 'a', 't', ' ', 'l', 'o', 'o', 'p', '.', 'e', 'x', 'a', 'm', 'p', 'l', 'e', '/', 'w', 'h', 'o', 'l', 'e', 'n', 'e', 't', '/', 'l', 'a', 'w', 's', '.', 'F', 'n', 'E', 'x', 'a', 'c', 't', 'A', 'p', 'a', 'r', 't', 'B', 'o', 'u', 'n', 'd', ' ', 'l', 'o', 'o', 'p', '.', 'e', 'x', 'a', 'm', 'p', 'l', 'e', '/', 'w', 'h', 'o', 'l', 'e', 'n', 'e', 't', '/', 'l', 'a', 'w', 's', '.', 'F', 'n', 'A', 'p', 'a', 'r', 't', 'B', 'o', 'u', 'n', 'd', ' ', 'l', 'o', 'o', 'p', '.', 'e', 'x', 'a', 'm', 'p', 'l', 'e', '/', 'w', 'h', 'o', 'l', 'e', 'n', 'e', 't', '/', 'l', 'a', 'w', 's', '.', 'F', 'n', 'E', 'x', 'a', 'c', 't', 'J', 'o', 'b', 's', 'V', 'a', 'l', 'i', 'd', ' ', 'l', 'o', 'o', 'p', '.', 'e', 'x', 'a', 'm', 'p', 'l', 'e', '/', 'w', 'h', 'o', 'l', 'e', 'n', 'e', 't', '/', 'l', 'a', 'w', 's', '.', 'F', 'n', 'E', 'x', 'a', 'c', 't', 'W', 'a', 'i', 't', 's', 'B', 'e', 'f', 'o', 'r', 'e', ' ', 'l', 'o', 'o', 'p', '.', 'e', 'x', 'a', 'm', 'p', 'l', 'e', '/', 'w', 'h', 'o', 'l', 'e', 'n', 'e', 't', '/', 'l', 'a', 'w', 's', '.', 'F', 'n', 'W', 'a', 'i', 't', 's'] := by kernel_rfl
set_option maxRecDepth 100000 in
theorem initList : Try.prog.initOrder.toList = ['h', 'a', 'r', 'n', 'e', 's', 's', ' ', '6', 'e', '1', 'f', '8', '9', '2', '7', '7', '9', 'f', 'd', '5', '6', '4', '1', 'f', 'd', '2', 'e', 'e', '1', '1', '0', '7', 'b', '5', 'd', '4', 'd', 'b', '2', '4', 'e', '8', 'a', 'a', '1', '6', 'f', '1', '9', 'e', 'c', 'f', 'e', '4', '0', 'f', '1', 'e', 'a', '5', 'a', 'b', '3', '7', '0', 'd', 'f', 'f', 'f', '1', '2', ' ', 'c', 'u', 't', ' ', 'a', 't', ' ', 'l', 'o', 'o', 'p', '.', 'e', 'x', 'a', 'm', 'p', 'l', 'e', '/', 'w', 'h', 'o', 'l', 'e', 'n', 'e', 't', '/', 'l', 'a', 'w', 's', '.', 'F', 'n', 'E', 'x', 'a', 'c', 't', 'A', 'p', 'a', 'r', 't', 'B', 'o', 'u', 'n', 'd', ' ', 'l', 'o', 'o', 'p', '.', 'e', 'x', 'a', 'm', 'p', 'l', 'e', '/', 'w', 'h', 'o', 'l', 'e', 'n', 'e', 't', '/', 'l', 'a', 'w', 's', '.', 'F', 'n', 'A', 'p', 'a', 'r', 't', 'B', 'o', 'u', 'n', 'd', ' ', 'l', 'o', 'o', 'p', '.', 'e', 'x', 'a', 'm', 'p', 'l', 'e', '/', 'w', 'h', 'o', 'l', 'e', 'n', 'e', 't', '/', 'l', 'a', 'w', 's', '.', 'F', 'n', 'E', 'x', 'a', 'c', 't', 'J', 'o', 'b', 's', 'V', 'a', 'l', 'i', 'd', ' ', 'l', 'o', 'o', 'p', '.', 'e', 'x', 'a', 'm', 'p', 'l', 'e', '/', 'w', 'h', 'o', 'l', 'e', 'n', 'e', 't', '/', 'l', 'a', 'w', 's', '.', 'F', 'n', 'E', 'x', 'a', 'c', 't', 'W', 'a', 'i', 't', 's', 'B', 'e', 'f', 'o', 'r', 'e', ' ', 'l', 'o', 'o', 'p', '.', 'e', 'x', 'a', 'm', 'p', 'l', 'e', '/', 'w', 'h', 'o', 'l', 'e', 'n', 'e', 't', '/', 'l', 'a', 'w', 's', '.', 'F', 'n', 'W', 'a', 'i', 't', 's'] := (congrArg String.toList initIs).trans String.toList_ofList
set_option maxRecDepth 100000 in
theorem initWords : wordsSigns Try.prog.initOrder.toList = [['h', 'a', 'r', 'n', 'e', 's', 's'], ['6', 'e', '1', 'f', '8', '9', '2', '7', '7', '9', 'f', 'd', '5', '6', '4', '1', 'f', 'd', '2', 'e', 'e', '1', '1', '0', '7', 'b', '5', 'd', '4', 'd', 'b', '2', '4', 'e', '8', 'a', 'a', '1', '6', 'f', '1', '9', 'e', 'c', 'f', 'e', '4', '0', 'f', '1', 'e', 'a', '5', 'a', 'b', '3', '7', '0', 'd', 'f', 'f', 'f', '1', '2'], ['c', 'u', 't'], ['a', 't'], ['l', 'o', 'o', 'p', '.', 'e', 'x', 'a', 'm', 'p', 'l', 'e', '/', 'w', 'h', 'o', 'l', 'e', 'n', 'e', 't', '/', 'l', 'a', 'w', 's', '.', 'F', 'n', 'E', 'x', 'a', 'c', 't', 'A', 'p', 'a', 'r', 't', 'B', 'o', 'u', 'n', 'd'], ['l', 'o', 'o', 'p', '.', 'e', 'x', 'a', 'm', 'p', 'l', 'e', '/', 'w', 'h', 'o', 'l', 'e', 'n', 'e', 't', '/', 'l', 'a', 'w', 's', '.', 'F', 'n', 'A', 'p', 'a', 'r', 't', 'B', 'o', 'u', 'n', 'd'], ['l', 'o', 'o', 'p', '.', 'e', 'x', 'a', 'm', 'p', 'l', 'e', '/', 'w', 'h', 'o', 'l', 'e', 'n', 'e', 't', '/', 'l', 'a', 'w', 's', '.', 'F', 'n', 'E', 'x', 'a', 'c', 't', 'J', 'o', 'b', 's', 'V', 'a', 'l', 'i', 'd'], ['l', 'o', 'o', 'p', '.', 'e', 'x', 'a', 'm', 'p', 'l', 'e', '/', 'w', 'h', 'o', 'l', 'e', 'n', 'e', 't', '/', 'l', 'a', 'w', 's', '.', 'F', 'n', 'E', 'x', 'a', 'c', 't', 'W', 'a', 'i', 't', 's', 'B', 'e', 'f', 'o', 'r', 'e'], ['l', 'o', 'o', 'p', '.', 'e', 'x', 'a', 'm', 'p', 'l', 'e', '/', 'w', 'h', 'o', 'l', 'e', 'n', 'e', 't', '/', 'l', 'a', 'w', 's', '.', 'F', 'n', 'W', 'a', 'i', 't', 's']] := (congrArg wordsSigns initList).trans (by kernel_rfl)
def rest_ : List (List Char) := [['a', 't'], ['l', 'o', 'o', 'p', '.', 'e', 'x', 'a', 'm', 'p', 'l', 'e', '/', 'w', 'h', 'o', 'l', 'e', 'n', 'e', 't', '/', 'l', 'a', 'w', 's', '.', 'F', 'n', 'E', 'x', 'a', 'c', 't', 'A', 'p', 'a', 'r', 't', 'B', 'o', 'u', 'n', 'd'], ['l', 'o', 'o', 'p', '.', 'e', 'x', 'a', 'm', 'p', 'l', 'e', '/', 'w', 'h', 'o', 'l', 'e', 'n', 'e', 't', '/', 'l', 'a', 'w', 's', '.', 'F', 'n', 'A', 'p', 'a', 'r', 't', 'B', 'o', 'u', 'n', 'd'], ['l', 'o', 'o', 'p', '.', 'e', 'x', 'a', 'm', 'p', 'l', 'e', '/', 'w', 'h', 'o', 'l', 'e', 'n', 'e', 't', '/', 'l', 'a', 'w', 's', '.', 'F', 'n', 'E', 'x', 'a', 'c', 't', 'J', 'o', 'b', 's', 'V', 'a', 'l', 'i', 'd'], ['l', 'o', 'o', 'p', '.', 'e', 'x', 'a', 'm', 'p', 'l', 'e', '/', 'w', 'h', 'o', 'l', 'e', 'n', 'e', 't', '/', 'l', 'a', 'w', 's', '.', 'F', 'n', 'E', 'x', 'a', 'c', 't', 'W', 'a', 'i', 't', 's', 'B', 'e', 'f', 'o', 'r', 'e'], ['l', 'o', 'o', 'p', '.', 'e', 'x', 'a', 'm', 'p', 'l', 'e', '/', 'w', 'h', 'o', 'l', 'e', 'n', 'e', 't', '/', 'l', 'a', 'w', 's', '.', 'F', 'n', 'W', 'a', 'i', 't', 's']]
def cut_ : List Char := ['c', 'u', 't']
theorem behind_ : behindMainWord (wordsSigns Try.prog.initOrder.toList) = cut_ :: rest_ := (congrArg behindMainWord initWords).trans (by kernel_rfl)
theorem strip_ : stripLifts liftWords (cut_ :: rest_) = ([], cut_ :: rest_) := by kernel_rfl
theorem enter_of {P : Program} {c0 : List Char} {rest : List (List Char)} (h : behindMainWord (wordsSigns P.initOrder.toList) = c0 :: rest) (hs : stripLifts liftWords (c0 :: rest) = ([], c0 :: rest)) (hq : ((c0 :: rest).head? == some "cut".toList) = true) (hl : P.laysLater = false) (hb : P.bearsReflect = false) (hd : P.doorFits [] = true) : P.mayEnter = true := by
  unfold Program.mayEnter
  rw [h]
  simp only [hs, hq, hl, hb, hd]
  simp
theorem lifts_of {P : Program} {c0 : List Char} {rest : List (List Char)} (h : behindMainWord (wordsSigns P.initOrder.toList) = c0 :: rest) (hs : stripLifts liftWords (c0 :: rest) = ([], c0 :: rest)) : P.headLifts = [] := by
  unfold Program.headLifts
  rw [h, hs]
  simp
theorem final_of {P : Program} {c0 : List Char} {rest : List (List Char)} (h : behindMainWord (wordsSigns P.initOrder.toList) = c0 :: rest) (hs : stripLifts liftWords (c0 :: rest) = ([], c0 :: rest)) (hq : ((c0 :: rest).head? == some "carried".toList) = false) : P.liftsFinal = false := by
  unfold Program.liftsFinal
  rw [h, lifts_of h hs]
  simp only [hq]
  simp
theorem make_of {P : Program} {c0 : List Char} {rest : List (List Char)} (h : behindMainWord (wordsSigns P.initOrder.toList) = c0 :: rest) (h1 : (c0 == "gc".toList || c0 == "spec".toList) = false) (h2 : (c0 == "cut".toList || (c0 == "finals".toList && rest.head? == some "cut".toList)) = true) : P.make = some .cut := by
  unfold Program.make
  rw [h]
  simp only [h1, h2]
  simp
theorem enters : Program.mayEnter Try.prog = true := enter_of behind_ strip_ (by kernel_rfl) (by kernel_rfl) (by kernel_rfl) (by kernel_rfl)
theorem finals : Program.liftsFinal Try.prog = false := final_of behind_ strip_ (by kernel_rfl)
theorem makes : Program.make Try.prog = some .cut := make_of behind_ (by kernel_rfl) (by kernel_rfl)
theorem closed_ : joinedFacts Try.prog 7 Try.f7 Rows.fnWaitsSpec Rows.fnWaitsRow = true := by
  unfold joinedFacts
  rw [enters, finals, makes]
  kernel_rfl
theorem over : Rows.fnWaitsRow.holds Try.pinned (OpenSpec.ofChange Rows.fnWaitsSpec) :=
 OpenClaim.holds_of_wide 7 Try.f7 rfl rfl rfl rfl rfl rfl rfl ⟨rfl, rfl, rfl, rfl, rfl⟩ rfl rfl rfl rfl rfl (by kernel_rfl) Try.func7 closed_
  (of_decide_eq_true (by kernel_rfl)) (by unfold Func.isWrapper; first | (rw [if_pos (by decide +kernel)]; kernel_rfl) | (rw [if_neg (by decide +kernel)]; exact ⟨rfl, rfl⟩))
  (fun os started H enc _ => lifted os started H enc)
theorem proved : Rows.FnWaitsSaid := over
#print axioms proved
end Go.Proofs.Ytecdngoknkmncaa.fnWaits
namespace Go.Proofs.Ytecdngoknkmncaa
/-- The row, under a short name, for the claim. -/
theorem fnWaits_holds : Rows.FnWaitsSaid := fnWaits.proved
end Go.Proofs.Ytecdngoknkmncaa
