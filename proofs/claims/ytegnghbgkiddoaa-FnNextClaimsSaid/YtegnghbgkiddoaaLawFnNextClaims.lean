-- Laid by this session's own program (pr.py) over the translation; Lean checks it.
import Derived.Test.YtegnghbgkiddoaaRows
import Derived.Test.YtegnghbgkiddoaaPA50
import Derived.Test.YtegnghbgkiddoaaPureFnNextClaims
import Derived.WalkKit
import Derived.ProofKit
import Derived.OpenShut
import Derived.ShutString
import Derived.ChangeOld
import Derived.Below
import Derived.SizedLaws
import Derived.Test.YtegnghbgkiddoaaWSized
namespace Go.Proofs.Ytegnghbgkiddoaa.fnNextClaims
open Go.ChangeShapes Go.WideShapes Go.ChangeAt Go.RowKit
open Go.ChangeMaps (open_string shut_string)
set_option linter.unusedVariables false
theorem own : ownKnob Try.prog.godebug = none := by kernel_rfl
theorem laidOut : laidOutB Try.prog = true := by kernel_rfl
def IsRow (k : IntKind) (w : World) (a : Option Addr) (len cap : Nat) (zs : List Int) : Prop :=
 (a = none ∧ len = 0 ∧ cap = 0 ∧ zs = []) ∨
 ∃ x, a = some x ∧ len ≤ cap ∧ cap ≤ maxLen ∧ zs.length = cap ∧ (∀ i, i < zs.length → w.cell? (x.add i) = some (.int k (zs.getD i 0))) ∧ ∀ n ∈ zs, (Lit.int k n).wf = true
set_option maxRecDepth 100000 in
theorem lifted (os : Os) (started : os.Started) (H : Type) (enc : TypeId × Value → H) :
  ReturnsInHanded {} Try.checked os 11 .any (Rows.fnNextClaimsSpec.pre6 enc Try.prog Try.f11 Rows.fnNextClaimsRow.domain false) (Rows.fnNextClaimsSpec.post enc Try.prog Try.f11 false true false false) := by
 refine returnsInHanded_of_change_sized (C := Try.checked) own started (by kernel_rfl) Try.func11
  (ChangeSpec.witness6 (enc := enc) (C := Try.checked) false ⟨#[], #[.slice none 0 0], []⟩ 8 (by kernel_rfl) (by kernel_rfl) (by kernel_rfl) (by kernel_rfl)) ?_
 intro W base args ds gs before hval0 hW hcnd hsz0 _
 have hsz : (DataW.weightsEach Try.prog (Try.f11.params.toList ++ Rows.fnNextClaimsSpec.plain.varTypes Try.prog) (ds ++ gs)).all (· ≤ reachBytes) = true := hsz0
 have hval : ∀ (j : Nat) t v, Try.f11.params[j]? = some t → args[j]? = some v → Value.okWide Try.prog W .any base t v := hval0
 have hW' := hW
 obtain ⟨p, q, hA0, hV, rfl, hfz, hnd⟩ := hW
 have hA : DataW.TrodAll enc Try.prog W 0 (fun _ => true) true Try.f11.params.toList args.toList ds p := hA0
 rw [Try.params11] at hA hval hsz
 obtain ⟨v0, vs0, d0, ds0, p0, q0, hargs, rfl, rfl, h0, r0⟩ := trodAll_cons hA
 obtain ⟨rfl, rfl, rfl⟩ := trodAll_nil r0
 obtain rfl : args = #[v0] := by cases args; simp_all
 obtain ⟨rfl, rfl⟩ := trodVars_none hV
 obtain ⟨a0, len0, cap0, rfl⟩ := okWide_slice Try.underlying39 (hval 0 39 v0 rfl rfl)
 have k0 := h0
 have lt0 : ∀ x ∈ p0, x.block < W.heap.size := by obtain ⟨m, hm⟩ := k0; exact DataW.trod_lt m _ _ _ hm
 obtain ⟨z0, w0⟩ : ∃ zs, IsRow .u8 W a0 len0 cap0 zs := by
  obtain ⟨fuel, hf⟩ := h0
  rcases open_ints Try.underlying39 Try.underlying5 (by kernel_rfl) hf with ⟨hcs, _⟩ | ⟨x, l, c, zs, hcs, _, hl, hm, hz, _, hcell, hwz⟩
  ·simp [Value.cells] at hcs
   obtain ⟨rfl, rfl, rfl⟩ := hcs
   exact ⟨[], .inl ⟨rfl, rfl, rfl, rfl⟩⟩
  ·simp [Value.cells] at hcs
   obtain ⟨rfl, rfl, rfl⟩ := hcs
   exact ⟨zs, .inr ⟨_, rfl, hl, hm, by simpa using hz, hcell, hwz⟩⟩
 have y0 : len0 * 1 ≤ 140737488351232 := Go.Proofs.YtegnghbgkiddoaaW.PrintWords.sized_ints hsz (j := 0) (t := 39) rfl rfl Try.underlying39 Try.underlying5 (by kernel_rfl) (by kernel_rfl) h0
 clear hA0 hval0 hsz0 hsz
 refine (PA.laws_FnNextClaims.walk Pure.FnNextClaims a0 len0 cap0 z0 W w0 y0).mono fun e W' ⟨he, bel⟩ => ?_
 subst he
 exact ⟨_, rfl, _, _, _, [], _, [], hW', trodAll_mk1 (shut_bool Try.underlying4 _), (trodAll_cons_mk (Below.trod laidOut (by kernel_rfl) (of_decide_eq_true (by kernel_rfl)) k0 bel lt0) trodAll_mk0), rfl, bel.frame _, fun h => by cases h⟩
def ch32 : Char := Char.ofNat 32
def ch46 : Char := Char.ofNat 46
def ch47 : Char := Char.ofNat 47
def ch48 : Char := Char.ofNat 48
def ch49 : Char := Char.ofNat 49
def ch50 : Char := Char.ofNat 50
def ch51 : Char := Char.ofNat 51
def ch52 : Char := Char.ofNat 52
def ch53 : Char := Char.ofNat 53
def ch54 : Char := Char.ofNat 54
def ch55 : Char := Char.ofNat 55
def ch56 : Char := Char.ofNat 56
def ch57 : Char := Char.ofNat 57
def ch65 : Char := Char.ofNat 65
def ch66 : Char := Char.ofNat 66
def ch67 : Char := Char.ofNat 67
def ch69 : Char := Char.ofNat 69
def ch70 : Char := Char.ofNat 70
def ch76 : Char := Char.ofNat 76
def ch78 : Char := Char.ofNat 78
def ch79 : Char := Char.ofNat 79
def ch82 : Char := Char.ofNat 82
def ch84 : Char := Char.ofNat 84
def ch85 : Char := Char.ofNat 85
def ch86 : Char := Char.ofNat 86
def ch87 : Char := Char.ofNat 87
def ch97 : Char := Char.ofNat 97
def ch98 : Char := Char.ofNat 98
def ch99 : Char := Char.ofNat 99
def ch100 : Char := Char.ofNat 100
def ch101 : Char := Char.ofNat 101
def ch102 : Char := Char.ofNat 102
def ch103 : Char := Char.ofNat 103
def ch104 : Char := Char.ofNat 104
def ch105 : Char := Char.ofNat 105
def ch108 : Char := Char.ofNat 108
def ch109 : Char := Char.ofNat 109
def ch110 : Char := Char.ofNat 110
def ch111 : Char := Char.ofNat 111
def ch112 : Char := Char.ofNat 112
def ch114 : Char := Char.ofNat 114
def ch115 : Char := Char.ofNat 115
def ch116 : Char := Char.ofNat 116
def ch117 : Char := Char.ofNat 117
def ch119 : Char := Char.ofNat 119
def ch120 : Char := Char.ofNat 120
def ch121 : Char := Char.ofNat 121
set_option maxRecDepth 100000 in
theorem initIs : Try.prog.initOrder = String.ofList [ch104, ch97, ch114, ch110, ch101, ch115, ch115, ch32, ch49, ch48, ch54, ch98, ch102, ch101, ch100, ch53, ch57, ch49, ch99, ch101, ch54, ch52, ch97, ch101, ch51, ch57, ch98, ch55, ch57, ch55, ch99, ch54, ch50, ch54, ch98, ch48, ch99, ch52, ch57, ch55, ch98, ch56, ch98, ch55, ch51, ch102, ch56, ch53, ch97, ch48, ch101, ch98, ch99, ch99, ch56, ch100, ch98, ch97, ch97, ch50, ch100, ch102, ch102, ch102, ch50, ch50, ch51, ch55, ch101, ch49, ch54, ch50, ch32, ch99, ch117, ch116, ch32, ch97, ch116, ch32, ch108, ch111, ch111, ch112, ch46, ch101, ch120, ch97, ch109, ch112, ch108, ch101, ch47, ch119, ch104, ch111, ch108, ch101, ch110, ch101, ch116, ch47, ch108, ch97, ch119, ch115, ch46, ch70, ch110, ch69, ch120, ch97, ch99, ch116, ch84, ch114, ch101, ch101, ch79, ch102, ch32, ch108, ch111, ch111, ch112, ch46, ch101, ch120, ch97, ch109, ch112, ch108, ch101, ch47, ch119, ch104, ch111, ch108, ch101, ch110, ch101, ch116, ch47, ch108, ch97, ch119, ch115, ch46, ch70, ch110, ch69, ch120, ch97, ch99, ch116, ch70, ch105, ch114, ch115, ch116, ch67, ch108, ch97, ch105, ch109, ch115, ch32, ch108, ch111, ch111, ch112, ch46, ch101, ch120, ch97, ch109, ch112, ch108, ch101, ch47, ch119, ch104, ch111, ch108, ch101, ch110, ch101, ch116, ch47, ch108, ch97, ch119, ch115, ch46, ch70, ch110, ch69, ch120, ch97, ch99, ch116, ch67, ch97, ch98, ch108, ch101, ch115, ch86, ch97, ch108, ch105, ch100, ch32, ch108, ch111, ch111, ch112, ch46, ch101, ch120, ch97, ch109, ch112, ch108, ch101, ch47, ch119, ch104, ch111, ch108, ch101, ch110, ch101, ch116, ch47, ch108, ch97, ch119, ch115, ch46, ch70, ch110, ch87, ch97, ch121, ch85, ch112, ch32, ch108, ch111, ch111, ch112, ch46, ch101, ch120, ch97, ch109, ch112, ch108, ch101, ch47, ch119, ch104, ch111, ch108, ch101, ch110, ch101, ch116, ch47, ch108, ch97, ch119, ch115, ch46, ch70, ch110, ch67, ch108, ch97, ch105, ch109, ch115, ch32, ch108, ch111, ch111, ch112, ch46, ch101, ch120, ch97, ch109, ch112, ch108, ch101, ch47, ch119, ch104, ch111, ch108, ch101, ch110, ch101, ch116, ch47, ch108, ch97, ch119, ch115, ch46, ch70, ch110, ch69, ch120, ch97, ch99, ch116, ch82, ch111, ch111, ch116, ch79, ch102, ch32, ch108, ch111, ch111, ch112, ch46, ch101, ch120, ch97, ch109, ch112, ch108, ch101, ch47, ch119, ch104, ch111, ch108, ch101, ch110, ch101, ch116, ch47, ch108, ch97, ch119, ch115, ch46, ch70, ch110, ch82, ch111, ch111, ch116, ch32, ch108, ch111, ch111, ch112, ch46, ch101, ch120, ch97, ch109, ch112, ch108, ch101, ch47, ch119, ch104, ch111, ch108, ch101, ch110, ch101, ch116, ch47, ch108, ch97, ch119, ch115, ch46, ch70, ch110, ch67, ch111, ch115, ch116, ch115, ch32, ch108, ch111, ch111, ch112, ch46, ch101, ch120, ch97, ch109, ch112, ch108, ch101, ch47, ch119, ch104, ch111, ch108, ch101, ch110, ch101, ch116, ch47, ch108, ch97, ch119, ch115, ch46, ch70, ch110, ch78, ch101, ch120, ch116, ch67, ch108, ch97, ch105, ch109, ch115, ch32, ch108, ch111, ch111, ch112, ch46, ch101, ch120, ch97, ch109, ch112, ch108, ch101, ch47, ch119, ch104, ch111, ch108, ch101, ch110, ch101, ch116, ch47, ch108, ch97, ch119, ch115, ch46, ch70, ch110, ch69, ch120, ch97, ch99, ch116, ch67, ch111, ch115, ch116, ch115, ch79, ch102, ch32, ch108, ch111, ch111, ch112, ch46, ch101, ch120, ch97, ch109, ch112, ch108, ch101, ch47, ch119, ch104, ch111, ch108, ch101, ch110, ch101, ch116, ch47, ch108, ch97, ch119, ch115, ch46, ch70, ch110, ch67, ch108, ch97, ch105, ch109, ch115, ch66, ch101, ch116, ch116, ch101, ch114, ch32, ch108, ch111, ch111, ch112, ch46, ch101, ch120, ch97, ch109, ch112, ch108, ch101, ch47, ch119, ch104, ch111, ch108, ch101, ch110, ch101, ch116, ch47, ch108, ch97, ch119, ch115, ch46, ch70, ch110, ch69, ch120, ch97, ch99, ch116, ch67, ch108, ch97, ch105, ch109, ch115, ch65, ch102, ch116, ch101, ch114, ch32, ch108, ch111, ch111, ch112, ch46, ch101, ch120, ch97, ch109, ch112, ch108, ch101, ch47, ch119, ch104, ch111, ch108, ch101, ch110, ch101, ch116, ch47, ch108, ch97, ch119, ch115, ch46, ch70, ch110, ch69, ch120, ch97, ch99, ch116, ch78, ch101, ch120, ch116, ch67, ch108, ch97, ch105, ch109, ch115, ch32, ch108, ch111, ch111, ch112, ch46, ch101, ch120, ch97, ch109, ch112, ch108, ch101, ch47, ch119, ch104, ch111, ch108, ch101, ch110, ch101, ch116, ch47, ch108, ch97, ch119, ch115, ch46, ch70, ch110, ch69, ch120, ch97, ch99, ch116, ch87, ch97, ch121, ch85, ch112, ch32, ch108, ch111, ch111, ch112, ch46, ch101, ch120, ch97, ch109, ch112, ch108, ch101, ch47, ch119, ch104, ch111, ch108, ch101, ch110, ch101, ch116, ch47, ch108, ch97, ch119, ch115, ch46, ch70, ch110, ch84, ch114, ch101, ch101, ch76, ch101, ch115, ch115, ch32, ch108, ch111, ch111, ch112, ch46, ch101, ch120, ch97, ch109, ch112, ch108, ch101, ch47, ch119, ch104, ch111, ch108, ch101, ch110, ch101, ch116, ch47, ch108, ch97, ch119, ch115, ch46, ch70, ch110, ch84, ch114, ch101, ch101, ch32, ch108, ch111, ch111, ch112, ch46, ch101, ch120, ch97, ch109, ch112, ch108, ch101, ch47, ch119, ch104, ch111, ch108, ch101, ch110, ch101, ch116, ch47, ch108, ch97, ch119, ch115, ch46, ch70, ch110, ch69, ch120, ch97, ch99, ch116, ch82, ch117, ch110, ch66, ch114, ch105, ch100, ch103, ch101] := by kernel_rfl
set_option maxRecDepth 100000 in
theorem initList : Try.prog.initOrder.toList = [ch104, ch97, ch114, ch110, ch101, ch115, ch115, ch32, ch49, ch48, ch54, ch98, ch102, ch101, ch100, ch53, ch57, ch49, ch99, ch101, ch54, ch52, ch97, ch101, ch51, ch57, ch98, ch55, ch57, ch55, ch99, ch54, ch50, ch54, ch98, ch48, ch99, ch52, ch57, ch55, ch98, ch56, ch98, ch55, ch51, ch102, ch56, ch53, ch97, ch48, ch101, ch98, ch99, ch99, ch56, ch100, ch98, ch97, ch97, ch50, ch100, ch102, ch102, ch102, ch50, ch50, ch51, ch55, ch101, ch49, ch54, ch50, ch32, ch99, ch117, ch116, ch32, ch97, ch116, ch32, ch108, ch111, ch111, ch112, ch46, ch101, ch120, ch97, ch109, ch112, ch108, ch101, ch47, ch119, ch104, ch111, ch108, ch101, ch110, ch101, ch116, ch47, ch108, ch97, ch119, ch115, ch46, ch70, ch110, ch69, ch120, ch97, ch99, ch116, ch84, ch114, ch101, ch101, ch79, ch102, ch32, ch108, ch111, ch111, ch112, ch46, ch101, ch120, ch97, ch109, ch112, ch108, ch101, ch47, ch119, ch104, ch111, ch108, ch101, ch110, ch101, ch116, ch47, ch108, ch97, ch119, ch115, ch46, ch70, ch110, ch69, ch120, ch97, ch99, ch116, ch70, ch105, ch114, ch115, ch116, ch67, ch108, ch97, ch105, ch109, ch115, ch32, ch108, ch111, ch111, ch112, ch46, ch101, ch120, ch97, ch109, ch112, ch108, ch101, ch47, ch119, ch104, ch111, ch108, ch101, ch110, ch101, ch116, ch47, ch108, ch97, ch119, ch115, ch46, ch70, ch110, ch69, ch120, ch97, ch99, ch116, ch67, ch97, ch98, ch108, ch101, ch115, ch86, ch97, ch108, ch105, ch100, ch32, ch108, ch111, ch111, ch112, ch46, ch101, ch120, ch97, ch109, ch112, ch108, ch101, ch47, ch119, ch104, ch111, ch108, ch101, ch110, ch101, ch116, ch47, ch108, ch97, ch119, ch115, ch46, ch70, ch110, ch87, ch97, ch121, ch85, ch112, ch32, ch108, ch111, ch111, ch112, ch46, ch101, ch120, ch97, ch109, ch112, ch108, ch101, ch47, ch119, ch104, ch111, ch108, ch101, ch110, ch101, ch116, ch47, ch108, ch97, ch119, ch115, ch46, ch70, ch110, ch67, ch108, ch97, ch105, ch109, ch115, ch32, ch108, ch111, ch111, ch112, ch46, ch101, ch120, ch97, ch109, ch112, ch108, ch101, ch47, ch119, ch104, ch111, ch108, ch101, ch110, ch101, ch116, ch47, ch108, ch97, ch119, ch115, ch46, ch70, ch110, ch69, ch120, ch97, ch99, ch116, ch82, ch111, ch111, ch116, ch79, ch102, ch32, ch108, ch111, ch111, ch112, ch46, ch101, ch120, ch97, ch109, ch112, ch108, ch101, ch47, ch119, ch104, ch111, ch108, ch101, ch110, ch101, ch116, ch47, ch108, ch97, ch119, ch115, ch46, ch70, ch110, ch82, ch111, ch111, ch116, ch32, ch108, ch111, ch111, ch112, ch46, ch101, ch120, ch97, ch109, ch112, ch108, ch101, ch47, ch119, ch104, ch111, ch108, ch101, ch110, ch101, ch116, ch47, ch108, ch97, ch119, ch115, ch46, ch70, ch110, ch67, ch111, ch115, ch116, ch115, ch32, ch108, ch111, ch111, ch112, ch46, ch101, ch120, ch97, ch109, ch112, ch108, ch101, ch47, ch119, ch104, ch111, ch108, ch101, ch110, ch101, ch116, ch47, ch108, ch97, ch119, ch115, ch46, ch70, ch110, ch78, ch101, ch120, ch116, ch67, ch108, ch97, ch105, ch109, ch115, ch32, ch108, ch111, ch111, ch112, ch46, ch101, ch120, ch97, ch109, ch112, ch108, ch101, ch47, ch119, ch104, ch111, ch108, ch101, ch110, ch101, ch116, ch47, ch108, ch97, ch119, ch115, ch46, ch70, ch110, ch69, ch120, ch97, ch99, ch116, ch67, ch111, ch115, ch116, ch115, ch79, ch102, ch32, ch108, ch111, ch111, ch112, ch46, ch101, ch120, ch97, ch109, ch112, ch108, ch101, ch47, ch119, ch104, ch111, ch108, ch101, ch110, ch101, ch116, ch47, ch108, ch97, ch119, ch115, ch46, ch70, ch110, ch67, ch108, ch97, ch105, ch109, ch115, ch66, ch101, ch116, ch116, ch101, ch114, ch32, ch108, ch111, ch111, ch112, ch46, ch101, ch120, ch97, ch109, ch112, ch108, ch101, ch47, ch119, ch104, ch111, ch108, ch101, ch110, ch101, ch116, ch47, ch108, ch97, ch119, ch115, ch46, ch70, ch110, ch69, ch120, ch97, ch99, ch116, ch67, ch108, ch97, ch105, ch109, ch115, ch65, ch102, ch116, ch101, ch114, ch32, ch108, ch111, ch111, ch112, ch46, ch101, ch120, ch97, ch109, ch112, ch108, ch101, ch47, ch119, ch104, ch111, ch108, ch101, ch110, ch101, ch116, ch47, ch108, ch97, ch119, ch115, ch46, ch70, ch110, ch69, ch120, ch97, ch99, ch116, ch78, ch101, ch120, ch116, ch67, ch108, ch97, ch105, ch109, ch115, ch32, ch108, ch111, ch111, ch112, ch46, ch101, ch120, ch97, ch109, ch112, ch108, ch101, ch47, ch119, ch104, ch111, ch108, ch101, ch110, ch101, ch116, ch47, ch108, ch97, ch119, ch115, ch46, ch70, ch110, ch69, ch120, ch97, ch99, ch116, ch87, ch97, ch121, ch85, ch112, ch32, ch108, ch111, ch111, ch112, ch46, ch101, ch120, ch97, ch109, ch112, ch108, ch101, ch47, ch119, ch104, ch111, ch108, ch101, ch110, ch101, ch116, ch47, ch108, ch97, ch119, ch115, ch46, ch70, ch110, ch84, ch114, ch101, ch101, ch76, ch101, ch115, ch115, ch32, ch108, ch111, ch111, ch112, ch46, ch101, ch120, ch97, ch109, ch112, ch108, ch101, ch47, ch119, ch104, ch111, ch108, ch101, ch110, ch101, ch116, ch47, ch108, ch97, ch119, ch115, ch46, ch70, ch110, ch84, ch114, ch101, ch101, ch32, ch108, ch111, ch111, ch112, ch46, ch101, ch120, ch97, ch109, ch112, ch108, ch101, ch47, ch119, ch104, ch111, ch108, ch101, ch110, ch101, ch116, ch47, ch108, ch97, ch119, ch115, ch46, ch70, ch110, ch69, ch120, ch97, ch99, ch116, ch82, ch117, ch110, ch66, ch114, ch105, ch100, ch103, ch101] := (congrArg String.toList initIs).trans String.toList_ofList
set_option maxRecDepth 100000 in
theorem initWords : wordsSigns Try.prog.initOrder.toList = [[ch104, ch97, ch114, ch110, ch101, ch115, ch115], [ch49, ch48, ch54, ch98, ch102, ch101, ch100, ch53, ch57, ch49, ch99, ch101, ch54, ch52, ch97, ch101, ch51, ch57, ch98, ch55, ch57, ch55, ch99, ch54, ch50, ch54, ch98, ch48, ch99, ch52, ch57, ch55, ch98, ch56, ch98, ch55, ch51, ch102, ch56, ch53, ch97, ch48, ch101, ch98, ch99, ch99, ch56, ch100, ch98, ch97, ch97, ch50, ch100, ch102, ch102, ch102, ch50, ch50, ch51, ch55, ch101, ch49, ch54, ch50], [ch99, ch117, ch116], [ch97, ch116], [ch108, ch111, ch111, ch112, ch46, ch101, ch120, ch97, ch109, ch112, ch108, ch101, ch47, ch119, ch104, ch111, ch108, ch101, ch110, ch101, ch116, ch47, ch108, ch97, ch119, ch115, ch46, ch70, ch110, ch69, ch120, ch97, ch99, ch116, ch84, ch114, ch101, ch101, ch79, ch102], [ch108, ch111, ch111, ch112, ch46, ch101, ch120, ch97, ch109, ch112, ch108, ch101, ch47, ch119, ch104, ch111, ch108, ch101, ch110, ch101, ch116, ch47, ch108, ch97, ch119, ch115, ch46, ch70, ch110, ch69, ch120, ch97, ch99, ch116, ch70, ch105, ch114, ch115, ch116, ch67, ch108, ch97, ch105, ch109, ch115], [ch108, ch111, ch111, ch112, ch46, ch101, ch120, ch97, ch109, ch112, ch108, ch101, ch47, ch119, ch104, ch111, ch108, ch101, ch110, ch101, ch116, ch47, ch108, ch97, ch119, ch115, ch46, ch70, ch110, ch69, ch120, ch97, ch99, ch116, ch67, ch97, ch98, ch108, ch101, ch115, ch86, ch97, ch108, ch105, ch100], [ch108, ch111, ch111, ch112, ch46, ch101, ch120, ch97, ch109, ch112, ch108, ch101, ch47, ch119, ch104, ch111, ch108, ch101, ch110, ch101, ch116, ch47, ch108, ch97, ch119, ch115, ch46, ch70, ch110, ch87, ch97, ch121, ch85, ch112], [ch108, ch111, ch111, ch112, ch46, ch101, ch120, ch97, ch109, ch112, ch108, ch101, ch47, ch119, ch104, ch111, ch108, ch101, ch110, ch101, ch116, ch47, ch108, ch97, ch119, ch115, ch46, ch70, ch110, ch67, ch108, ch97, ch105, ch109, ch115], [ch108, ch111, ch111, ch112, ch46, ch101, ch120, ch97, ch109, ch112, ch108, ch101, ch47, ch119, ch104, ch111, ch108, ch101, ch110, ch101, ch116, ch47, ch108, ch97, ch119, ch115, ch46, ch70, ch110, ch69, ch120, ch97, ch99, ch116, ch82, ch111, ch111, ch116, ch79, ch102], [ch108, ch111, ch111, ch112, ch46, ch101, ch120, ch97, ch109, ch112, ch108, ch101, ch47, ch119, ch104, ch111, ch108, ch101, ch110, ch101, ch116, ch47, ch108, ch97, ch119, ch115, ch46, ch70, ch110, ch82, ch111, ch111, ch116], [ch108, ch111, ch111, ch112, ch46, ch101, ch120, ch97, ch109, ch112, ch108, ch101, ch47, ch119, ch104, ch111, ch108, ch101, ch110, ch101, ch116, ch47, ch108, ch97, ch119, ch115, ch46, ch70, ch110, ch67, ch111, ch115, ch116, ch115], [ch108, ch111, ch111, ch112, ch46, ch101, ch120, ch97, ch109, ch112, ch108, ch101, ch47, ch119, ch104, ch111, ch108, ch101, ch110, ch101, ch116, ch47, ch108, ch97, ch119, ch115, ch46, ch70, ch110, ch78, ch101, ch120, ch116, ch67, ch108, ch97, ch105, ch109, ch115], [ch108, ch111, ch111, ch112, ch46, ch101, ch120, ch97, ch109, ch112, ch108, ch101, ch47, ch119, ch104, ch111, ch108, ch101, ch110, ch101, ch116, ch47, ch108, ch97, ch119, ch115, ch46, ch70, ch110, ch69, ch120, ch97, ch99, ch116, ch67, ch111, ch115, ch116, ch115, ch79, ch102], [ch108, ch111, ch111, ch112, ch46, ch101, ch120, ch97, ch109, ch112, ch108, ch101, ch47, ch119, ch104, ch111, ch108, ch101, ch110, ch101, ch116, ch47, ch108, ch97, ch119, ch115, ch46, ch70, ch110, ch67, ch108, ch97, ch105, ch109, ch115, ch66, ch101, ch116, ch116, ch101, ch114], [ch108, ch111, ch111, ch112, ch46, ch101, ch120, ch97, ch109, ch112, ch108, ch101, ch47, ch119, ch104, ch111, ch108, ch101, ch110, ch101, ch116, ch47, ch108, ch97, ch119, ch115, ch46, ch70, ch110, ch69, ch120, ch97, ch99, ch116, ch67, ch108, ch97, ch105, ch109, ch115, ch65, ch102, ch116, ch101, ch114], [ch108, ch111, ch111, ch112, ch46, ch101, ch120, ch97, ch109, ch112, ch108, ch101, ch47, ch119, ch104, ch111, ch108, ch101, ch110, ch101, ch116, ch47, ch108, ch97, ch119, ch115, ch46, ch70, ch110, ch69, ch120, ch97, ch99, ch116, ch78, ch101, ch120, ch116, ch67, ch108, ch97, ch105, ch109, ch115], [ch108, ch111, ch111, ch112, ch46, ch101, ch120, ch97, ch109, ch112, ch108, ch101, ch47, ch119, ch104, ch111, ch108, ch101, ch110, ch101, ch116, ch47, ch108, ch97, ch119, ch115, ch46, ch70, ch110, ch69, ch120, ch97, ch99, ch116, ch87, ch97, ch121, ch85, ch112], [ch108, ch111, ch111, ch112, ch46, ch101, ch120, ch97, ch109, ch112, ch108, ch101, ch47, ch119, ch104, ch111, ch108, ch101, ch110, ch101, ch116, ch47, ch108, ch97, ch119, ch115, ch46, ch70, ch110, ch84, ch114, ch101, ch101, ch76, ch101, ch115, ch115], [ch108, ch111, ch111, ch112, ch46, ch101, ch120, ch97, ch109, ch112, ch108, ch101, ch47, ch119, ch104, ch111, ch108, ch101, ch110, ch101, ch116, ch47, ch108, ch97, ch119, ch115, ch46, ch70, ch110, ch84, ch114, ch101, ch101], [ch108, ch111, ch111, ch112, ch46, ch101, ch120, ch97, ch109, ch112, ch108, ch101, ch47, ch119, ch104, ch111, ch108, ch101, ch110, ch101, ch116, ch47, ch108, ch97, ch119, ch115, ch46, ch70, ch110, ch69, ch120, ch97, ch99, ch116, ch82, ch117, ch110, ch66, ch114, ch105, ch100, ch103, ch101]] := (congrArg wordsSigns initList).trans (by kernel_rfl)
def rest_ : List (List Char) := [[ch97, ch116], [ch108, ch111, ch111, ch112, ch46, ch101, ch120, ch97, ch109, ch112, ch108, ch101, ch47, ch119, ch104, ch111, ch108, ch101, ch110, ch101, ch116, ch47, ch108, ch97, ch119, ch115, ch46, ch70, ch110, ch69, ch120, ch97, ch99, ch116, ch84, ch114, ch101, ch101, ch79, ch102], [ch108, ch111, ch111, ch112, ch46, ch101, ch120, ch97, ch109, ch112, ch108, ch101, ch47, ch119, ch104, ch111, ch108, ch101, ch110, ch101, ch116, ch47, ch108, ch97, ch119, ch115, ch46, ch70, ch110, ch69, ch120, ch97, ch99, ch116, ch70, ch105, ch114, ch115, ch116, ch67, ch108, ch97, ch105, ch109, ch115], [ch108, ch111, ch111, ch112, ch46, ch101, ch120, ch97, ch109, ch112, ch108, ch101, ch47, ch119, ch104, ch111, ch108, ch101, ch110, ch101, ch116, ch47, ch108, ch97, ch119, ch115, ch46, ch70, ch110, ch69, ch120, ch97, ch99, ch116, ch67, ch97, ch98, ch108, ch101, ch115, ch86, ch97, ch108, ch105, ch100], [ch108, ch111, ch111, ch112, ch46, ch101, ch120, ch97, ch109, ch112, ch108, ch101, ch47, ch119, ch104, ch111, ch108, ch101, ch110, ch101, ch116, ch47, ch108, ch97, ch119, ch115, ch46, ch70, ch110, ch87, ch97, ch121, ch85, ch112], [ch108, ch111, ch111, ch112, ch46, ch101, ch120, ch97, ch109, ch112, ch108, ch101, ch47, ch119, ch104, ch111, ch108, ch101, ch110, ch101, ch116, ch47, ch108, ch97, ch119, ch115, ch46, ch70, ch110, ch67, ch108, ch97, ch105, ch109, ch115], [ch108, ch111, ch111, ch112, ch46, ch101, ch120, ch97, ch109, ch112, ch108, ch101, ch47, ch119, ch104, ch111, ch108, ch101, ch110, ch101, ch116, ch47, ch108, ch97, ch119, ch115, ch46, ch70, ch110, ch69, ch120, ch97, ch99, ch116, ch82, ch111, ch111, ch116, ch79, ch102], [ch108, ch111, ch111, ch112, ch46, ch101, ch120, ch97, ch109, ch112, ch108, ch101, ch47, ch119, ch104, ch111, ch108, ch101, ch110, ch101, ch116, ch47, ch108, ch97, ch119, ch115, ch46, ch70, ch110, ch82, ch111, ch111, ch116], [ch108, ch111, ch111, ch112, ch46, ch101, ch120, ch97, ch109, ch112, ch108, ch101, ch47, ch119, ch104, ch111, ch108, ch101, ch110, ch101, ch116, ch47, ch108, ch97, ch119, ch115, ch46, ch70, ch110, ch67, ch111, ch115, ch116, ch115], [ch108, ch111, ch111, ch112, ch46, ch101, ch120, ch97, ch109, ch112, ch108, ch101, ch47, ch119, ch104, ch111, ch108, ch101, ch110, ch101, ch116, ch47, ch108, ch97, ch119, ch115, ch46, ch70, ch110, ch78, ch101, ch120, ch116, ch67, ch108, ch97, ch105, ch109, ch115], [ch108, ch111, ch111, ch112, ch46, ch101, ch120, ch97, ch109, ch112, ch108, ch101, ch47, ch119, ch104, ch111, ch108, ch101, ch110, ch101, ch116, ch47, ch108, ch97, ch119, ch115, ch46, ch70, ch110, ch69, ch120, ch97, ch99, ch116, ch67, ch111, ch115, ch116, ch115, ch79, ch102], [ch108, ch111, ch111, ch112, ch46, ch101, ch120, ch97, ch109, ch112, ch108, ch101, ch47, ch119, ch104, ch111, ch108, ch101, ch110, ch101, ch116, ch47, ch108, ch97, ch119, ch115, ch46, ch70, ch110, ch67, ch108, ch97, ch105, ch109, ch115, ch66, ch101, ch116, ch116, ch101, ch114], [ch108, ch111, ch111, ch112, ch46, ch101, ch120, ch97, ch109, ch112, ch108, ch101, ch47, ch119, ch104, ch111, ch108, ch101, ch110, ch101, ch116, ch47, ch108, ch97, ch119, ch115, ch46, ch70, ch110, ch69, ch120, ch97, ch99, ch116, ch67, ch108, ch97, ch105, ch109, ch115, ch65, ch102, ch116, ch101, ch114], [ch108, ch111, ch111, ch112, ch46, ch101, ch120, ch97, ch109, ch112, ch108, ch101, ch47, ch119, ch104, ch111, ch108, ch101, ch110, ch101, ch116, ch47, ch108, ch97, ch119, ch115, ch46, ch70, ch110, ch69, ch120, ch97, ch99, ch116, ch78, ch101, ch120, ch116, ch67, ch108, ch97, ch105, ch109, ch115], [ch108, ch111, ch111, ch112, ch46, ch101, ch120, ch97, ch109, ch112, ch108, ch101, ch47, ch119, ch104, ch111, ch108, ch101, ch110, ch101, ch116, ch47, ch108, ch97, ch119, ch115, ch46, ch70, ch110, ch69, ch120, ch97, ch99, ch116, ch87, ch97, ch121, ch85, ch112], [ch108, ch111, ch111, ch112, ch46, ch101, ch120, ch97, ch109, ch112, ch108, ch101, ch47, ch119, ch104, ch111, ch108, ch101, ch110, ch101, ch116, ch47, ch108, ch97, ch119, ch115, ch46, ch70, ch110, ch84, ch114, ch101, ch101, ch76, ch101, ch115, ch115], [ch108, ch111, ch111, ch112, ch46, ch101, ch120, ch97, ch109, ch112, ch108, ch101, ch47, ch119, ch104, ch111, ch108, ch101, ch110, ch101, ch116, ch47, ch108, ch97, ch119, ch115, ch46, ch70, ch110, ch84, ch114, ch101, ch101], [ch108, ch111, ch111, ch112, ch46, ch101, ch120, ch97, ch109, ch112, ch108, ch101, ch47, ch119, ch104, ch111, ch108, ch101, ch110, ch101, ch116, ch47, ch108, ch97, ch119, ch115, ch46, ch70, ch110, ch69, ch120, ch97, ch99, ch116, ch82, ch117, ch110, ch66, ch114, ch105, ch100, ch103, ch101]]
def cut_ : List Char := [ch99, ch117, ch116]
theorem behind_ : behindMainWord (wordsSigns Try.prog.initOrder.toList) = cut_ :: rest_ := (congrArg behindMainWord initWords).trans (by kernel_rfl)
theorem strip_ : stripLifts liftWords (cut_ :: rest_) = ([], cut_ :: rest_) := by kernel_rfl
theorem enter_of {P : Program} {c0 : List Char} {rest : List (List Char)} (h : behindMainWord (wordsSigns P.initOrder.toList) = c0 :: rest) (hs : stripLifts liftWords (c0 :: rest) = ([], c0 :: rest)) (hq : ((c0 :: rest).head? == some "cut".toList) = true) (hl : P.laysLater = false) (hb : P.bearsReflect = false) (hd : P.doorFits [] = true) : P.mayEnter = true := by
  unfold Program.mayEnter
  rw [h]
  simp only [hs, hq, hl, hb, hd]
  simp
theorem lifts_of {P : Program} {c0 : List Char} {rest : List (List Char)} (h : behindMainWord (wordsSigns P.initOrder.toList) = c0 :: rest) (hs : stripLifts liftWords (c0 :: rest) = ([], c0 :: rest)) : P.headLifts = [] := by
  unfold Program.headLifts
  rw [h, hs]
  simp
theorem final_of {P : Program} {c0 : List Char} {rest : List (List Char)} (h : behindMainWord (wordsSigns P.initOrder.toList) = c0 :: rest) (hs : stripLifts liftWords (c0 :: rest) = ([], c0 :: rest)) (hq : ((c0 :: rest).head? == some "carried".toList) = false) : P.liftsFinal = false := by
  unfold Program.liftsFinal
  rw [h, lifts_of h hs]
  simp only [hq]
  simp
theorem make_of {P : Program} {c0 : List Char} {rest : List (List Char)} (h : behindMainWord (wordsSigns P.initOrder.toList) = c0 :: rest) (h1 : (c0 == "gc".toList || c0 == "spec".toList) = false) (h2 : (c0 == "cut".toList || (c0 == "finals".toList && rest.head? == some "cut".toList)) = true) : P.make = some .cut := by
  unfold Program.make
  rw [h]
  simp only [h1, h2]
  simp
theorem enters : Program.mayEnter Try.prog = true := enter_of behind_ strip_ (by kernel_rfl) (by kernel_rfl) (by kernel_rfl) (by kernel_rfl)
theorem finals : Program.liftsFinal Try.prog = false := final_of behind_ strip_ (by kernel_rfl)
theorem makes : Program.make Try.prog = some .cut := make_of behind_ (by kernel_rfl) (by kernel_rfl)
theorem closed_ : joinedFacts Try.prog 11 Try.f11 Rows.fnNextClaimsSpec Rows.fnNextClaimsRow = true := by
  unfold joinedFacts
  rw [enters, finals, makes]
  kernel_rfl
theorem over : Rows.fnNextClaimsRow.holds Try.pinned (OpenSpec.ofChange Rows.fnNextClaimsSpec) :=
 OpenClaim.holds_of_wide 11 Try.f11 rfl rfl rfl rfl rfl rfl rfl ⟨rfl, rfl, rfl, rfl, rfl⟩ rfl rfl rfl rfl rfl (by kernel_rfl) Try.func11 closed_
  (of_decide_eq_true (by kernel_rfl)) (by unfold Func.isWrapper; first | (rw [if_pos (by decide +kernel)]; kernel_rfl) | (rw [if_neg (by decide +kernel)]; exact ⟨rfl, rfl⟩))
  (fun os started H enc _ => lifted os started H enc)
theorem proved : Rows.FnNextClaimsSaid := over
#print axioms proved
end Go.Proofs.Ytegnghbgkiddoaa.fnNextClaims
namespace Go.Proofs.Ytegnghbgkiddoaa
/-- The row, under a short name, for the claim. -/
theorem fnNextClaims_holds : Rows.FnNextClaimsSaid := fnNextClaims.proved
end Go.Proofs.Ytegnghbgkiddoaa
