/-
  No cell of these rows narrows 'for every input' (looked for: loops, veiled, ifaces, maps, wideKeys, modest, calm, conditions, laid).
  DERIVED. THE GIVEN ROWS OF THIS SEAT. 4 by the template 'for every input the law returns true; each argument reads behind the call as it read before'; 0 by the template 'total and deterministic' (their statements: YtnppflmjlnfhpaaTotals.lean).
  GIVEN WITH THE SEED: the statements are not yours to turn. If you find one false, say at which input.
  Laid BY PROGRAM, IN A SANDBOX (cutbox-rows.mjs): the forced cells as the released guide's own fill.sh prints them over the translation 7c46403f6ce68b3c… (all of the seat's roots in one cut). By AI agents, Wed Nov 11 2026. No macro, syntax, notation, axiom, sorry.
-/
import Derived.Test.YtnppflmjlnfhpaaChecked
import GoSem.Claim
import GoSem.ClaimJoined
import GoSem.ClaimMapViews
import Derived.JoinedTies
import Derived.KernelRfl
namespace Go.Proofs.Ytnppflmjlnfhpaa
/- THE CELL 'sum', in the pinned program and in every row, IS THE sha256 OF THE DUMP (.gsa) THAT YtnppflmjlnfhpaaProg.lean LOADS. Nothing in Lean hashes anything: it is a label: what it is worth is what the hold of that sum in a sandbox is worth. -/
noncomputable def Try.pinned : Pinned := { name := "ytnppflmjlnfhpaa", sum := "7c46403f6ce68b3c723562a4d1cdd78aa3bf876bac2e780ce2e105a143ff393b", checked := Try.checked }
namespace Rows
def none {H : Type} : Left H := { results := [], args := [] }

/-- 'laws.FnTalkAlone': WHATEVER THE INPUT: true; the input reads as it did. -/
def fnTalkAloneSpec : ChangeSpec := { name := "fnTalkAlone", fn := fun _ => fun
  | [d] => { results := [.lit (.bool true)], args := [d] }
  | _ => none }
def fnTalkAloneRow : OpenClaim := { program := "ytnppflmjlnfhpaa", sum := "7c46403f6ce68b3c723562a4d1cdd78aa3bf876bac2e780ce2e105a143ff393b", func := "loop.example/wholenet/laws.FnTalkAlone", spec := "fnTalkAlone", unfollowed := true, recurses := true, apart := false }
def FnTalkAloneSaid : Prop := fnTalkAloneRow.holds Try.pinned (OpenSpec.ofChange fnTalkAloneSpec)

/-- ITS FALSE NEIGHBOUR: 'it returns false'. Refute it at one input. -/
def fnTalkAloneWrong : ChangeSpec := { name := "fnTalkAlone", fn := fun _ => fun
  | [d] => { results := [.lit (.bool false)], args := [d] }
  | _ => none }
def FnTalkAloneWrongFalsely : Prop := fnTalkAloneRow.holds Try.pinned (OpenSpec.ofChange fnTalkAloneWrong)

/-- 'laws.FnTalkLonger': WHATEVER THE INPUT: true; the input reads as it did. -/
def fnTalkLongerSpec : ChangeSpec := { name := "fnTalkLonger", fn := fun _ => fun
  | [d] => { results := [.lit (.bool true)], args := [d] }
  | _ => none }
def fnTalkLongerRow : OpenClaim := { program := "ytnppflmjlnfhpaa", sum := "7c46403f6ce68b3c723562a4d1cdd78aa3bf876bac2e780ce2e105a143ff393b", func := "loop.example/wholenet/laws.FnTalkLonger", spec := "fnTalkLonger", unfollowed := true, recurses := true, apart := false }
def FnTalkLongerSaid : Prop := fnTalkLongerRow.holds Try.pinned (OpenSpec.ofChange fnTalkLongerSpec)

/-- ITS FALSE NEIGHBOUR: 'it returns false'. Refute it at one input. -/
def fnTalkLongerWrong : ChangeSpec := { name := "fnTalkLonger", fn := fun _ => fun
  | [d] => { results := [.lit (.bool false)], args := [d] }
  | _ => none }
def FnTalkLongerWrongFalsely : Prop := fnTalkLongerRow.holds Try.pinned (OpenSpec.ofChange fnTalkLongerWrong)

/-- 'laws.FnExactRunTalk': WHATEVER THE INPUT: true; the input reads as it did. -/
def fnExactRunTalkSpec : ChangeSpec := { name := "fnExactRunTalk", fn := fun _ => fun
  | [d1, d2, d3] => { results := [.lit (.bool true)], args := [d1, d2, d3] }
  | _ => none }
def fnExactRunTalkRow : OpenClaim := { program := "ytnppflmjlnfhpaa", sum := "7c46403f6ce68b3c723562a4d1cdd78aa3bf876bac2e780ce2e105a143ff393b", func := "loop.example/wholenet/laws.FnExactRunTalk", spec := "fnExactRunTalk", unfollowed := true, recurses := true, apart := false }
def FnExactRunTalkSaid : Prop := fnExactRunTalkRow.holds Try.pinned (OpenSpec.ofChange fnExactRunTalkSpec)

/-- ITS FALSE NEIGHBOUR: 'it returns false'. Refute it at one input. -/
def fnExactRunTalkWrong : ChangeSpec := { name := "fnExactRunTalk", fn := fun _ => fun
  | [d1, d2, d3] => { results := [.lit (.bool false)], args := [d1, d2, d3] }
  | _ => none }
def FnExactRunTalkWrongFalsely : Prop := fnExactRunTalkRow.holds Try.pinned (OpenSpec.ofChange fnExactRunTalkWrong)

/-- 'laws.FnTalkOnce': WHATEVER THE INPUT: true; the input reads as it did. -/
def fnTalkOnceSpec : ChangeSpec := { name := "fnTalkOnce", fn := fun _ => fun
  | [d] => { results := [.lit (.bool true)], args := [d] }
  | _ => none }
def fnTalkOnceRow : OpenClaim := { program := "ytnppflmjlnfhpaa", sum := "7c46403f6ce68b3c723562a4d1cdd78aa3bf876bac2e780ce2e105a143ff393b", func := "loop.example/wholenet/laws.FnTalkOnce", spec := "fnTalkOnce", unfollowed := true, recurses := true, apart := false }
def FnTalkOnceSaid : Prop := fnTalkOnceRow.holds Try.pinned (OpenSpec.ofChange fnTalkOnceSpec)

/-- ITS FALSE NEIGHBOUR: 'it returns false'. Refute it at one input. -/
def fnTalkOnceWrong : ChangeSpec := { name := "fnTalkOnce", fn := fun _ => fun
  | [d] => { results := [.lit (.bool false)], args := [d] }
  | _ => none }
def FnTalkOnceWrongFalsely : Prop := fnTalkOnceRow.holds Try.pinned (OpenSpec.ofChange fnTalkOnceWrong)

/- THE SECOND FORM. 'bulk': how many values and letters a reading holds, each counted each time it is reached (what is shared counts as often as it is met; a slice's spare places count too). A statement '..UptoSaid' is the law's where the arguments, and the package variables that the reading takes, are together of bulk at most 1048576: NARROWER than '..Said'. Prove '..Said' where nothing that the law and all that it calls make is longer than what came in: it says more and counts as full. Else prove '..UptoSaid'. A law counts once. -/
mutual
def uptoBulk {H : Type} : DataW H → Nat
  | .lit (.string bytes) => bytes.length + 1
  | .lit _ => 1
  | .nil => 1
  | .ptr d => uptoBulk d + 1
  | .slice elems spare => uptoBulkAll elems + uptoBulkAll spare + 1
  | .agg parts => uptoBulkAll parts + 1
  | .iface _ d => uptoBulk d + 1
  | .map entries => uptoBulkEntries entries + 1
  | .held _ => 1
def uptoBulkAll {H : Type} : List (DataW H) → Nat
  | [] => 0
  | d :: r => uptoBulk d + uptoBulkAll r
def uptoBulkEntries {H : Type} : List (Lit × DataW H) → Nat
  | [] => 0
  | x :: r => uptoBulkEntry x + uptoBulkEntries r
def uptoBulkEntry {H : Type} : Lit × DataW H → Nat
  | (.string bytes, d) => bytes.length + uptoBulk d + 1
  | (_, d) => uptoBulk d + 1
 end
def uptoSmall : (H : Type) → List (DataW H) → Bool := fun _ ds => decide (uptoBulkAll ds ≤ 1048576)
def OpenSpec.upto (s : _root_.Go.ChangeSpec) : _root_.Go.OpenSpec := { _root_.Go.OpenSpec.ofChange s with cond := some uptoSmall }

/-- 'laws.FnTalkAlone', WHERE WHAT IT READS IS OF BULK AT MOST 1048576: true; the input reads as it did. -/
def fnTalkAloneUptoRow : OpenClaim := { program := "ytnppflmjlnfhpaa", sum := "7c46403f6ce68b3c723562a4d1cdd78aa3bf876bac2e780ce2e105a143ff393b", func := "loop.example/wholenet/laws.FnTalkAlone", spec := "fnTalkAlone", unfollowed := true, recurses := true, apart := false, narrowed := true }
def FnTalkAloneUptoSaid : Prop := fnTalkAloneUptoRow.holds Try.pinned (OpenSpec.upto fnTalkAloneSpec)

/-- 'laws.FnTalkLonger', WHERE WHAT IT READS IS OF BULK AT MOST 1048576: true; the input reads as it did. -/
def fnTalkLongerUptoRow : OpenClaim := { program := "ytnppflmjlnfhpaa", sum := "7c46403f6ce68b3c723562a4d1cdd78aa3bf876bac2e780ce2e105a143ff393b", func := "loop.example/wholenet/laws.FnTalkLonger", spec := "fnTalkLonger", unfollowed := true, recurses := true, apart := false, narrowed := true }
def FnTalkLongerUptoSaid : Prop := fnTalkLongerUptoRow.holds Try.pinned (OpenSpec.upto fnTalkLongerSpec)

/-- 'laws.FnExactRunTalk', WHERE WHAT IT READS IS OF BULK AT MOST 1048576: true; the input reads as it did. -/
def fnExactRunTalkUptoRow : OpenClaim := { program := "ytnppflmjlnfhpaa", sum := "7c46403f6ce68b3c723562a4d1cdd78aa3bf876bac2e780ce2e105a143ff393b", func := "loop.example/wholenet/laws.FnExactRunTalk", spec := "fnExactRunTalk", unfollowed := true, recurses := true, apart := false, narrowed := true }
def FnExactRunTalkUptoSaid : Prop := fnExactRunTalkUptoRow.holds Try.pinned (OpenSpec.upto fnExactRunTalkSpec)

/-- 'laws.FnTalkOnce', WHERE WHAT IT READS IS OF BULK AT MOST 1048576: true; the input reads as it did. -/
def fnTalkOnceUptoRow : OpenClaim := { program := "ytnppflmjlnfhpaa", sum := "7c46403f6ce68b3c723562a4d1cdd78aa3bf876bac2e780ce2e105a143ff393b", func := "loop.example/wholenet/laws.FnTalkOnce", spec := "fnTalkOnce", unfollowed := true, recurses := true, apart := false, narrowed := true }
def FnTalkOnceUptoSaid : Prop := fnTalkOnceUptoRow.holds Try.pinned (OpenSpec.upto fnTalkOnceSpec)

end Rows
end Go.Proofs.Ytnppflmjlnfhpaa
