/-
  No cell of these rows narrows 'for every input' (looked for: loops, veiled, ifaces, maps, wideKeys, modest, calm, conditions, laid).
  DERIVED. THE GIVEN ROWS OF THIS SEAT. 5 by the template 'for every input the law returns true; each argument reads behind the call as it read before'; 0 by the template 'total and deterministic' (their statements: YtecdngoknkmncaaTotals.lean).
  GIVEN WITH THE SEED: the statements are not yours to turn. If you find one false, say at which input.
  Laid BY PROGRAM, IN A SANDBOX (cutbox-rows.mjs): the forced cells as the released guide's own fill.sh prints them over the translation d58c41a77f4e343f… (all of the seat's roots in one cut). By AI agents, Wed Nov 11 2026. No macro, syntax, notation, axiom, sorry.
-/
import Derived.Test.YtecdngoknkmncaaChecked
import GoSem.Claim
import GoSem.ClaimJoined
import GoSem.ClaimMapViews
import Derived.JoinedTies
import Derived.KernelRfl
namespace Go.Proofs.Ytecdngoknkmncaa
/- THE CELL 'sum', in the pinned program and in every row, IS THE sha256 OF THE DUMP (.gsa) THAT YtecdngoknkmncaaProg.lean LOADS. Nothing in Lean hashes anything: it is a label: what it is worth is what the hold of that sum in a sandbox is worth. -/
noncomputable def Try.pinned : Pinned := { name := "ytecdngoknkmncaa", sum := "d58c41a77f4e343f17f36ebdc635890433f66ca8e58cc3b6141d7d77fab05823", checked := Try.checked }
namespace Rows
def none {H : Type} : Left H := { results := [], args := [] }

/-- 'laws.FnExactApartBound': WHATEVER THE INPUT: true; the input reads as it did. -/
def fnExactApartBoundSpec : ChangeSpec := { name := "fnExactApartBound", fn := fun _ => fun
  | [d1, d2, d3] => { results := [.lit (.bool true)], args := [d1, d2, d3] }
  | _ => none }
def fnExactApartBoundRow : OpenClaim := { program := "ytecdngoknkmncaa", sum := "d58c41a77f4e343f17f36ebdc635890433f66ca8e58cc3b6141d7d77fab05823", func := "loop.example/wholenet/laws.FnExactApartBound", spec := "fnExactApartBound", unfollowed := true, recurses := true, apart := false }
def FnExactApartBoundSaid : Prop := fnExactApartBoundRow.holds Try.pinned (OpenSpec.ofChange fnExactApartBoundSpec)

/-- ITS FALSE NEIGHBOUR: 'it returns false'. Refute it at one input. -/
def fnExactApartBoundWrong : ChangeSpec := { name := "fnExactApartBound", fn := fun _ => fun
  | [d1, d2, d3] => { results := [.lit (.bool false)], args := [d1, d2, d3] }
  | _ => none }
def FnExactApartBoundWrongFalsely : Prop := fnExactApartBoundRow.holds Try.pinned (OpenSpec.ofChange fnExactApartBoundWrong)

/-- 'laws.FnApartBound': WHATEVER THE INPUT: true; the input reads as it did. -/
def fnApartBoundSpec : ChangeSpec := { name := "fnApartBound", fn := fun _ => fun
  | [d] => { results := [.lit (.bool true)], args := [d] }
  | _ => none }
def fnApartBoundRow : OpenClaim := { program := "ytecdngoknkmncaa", sum := "d58c41a77f4e343f17f36ebdc635890433f66ca8e58cc3b6141d7d77fab05823", func := "loop.example/wholenet/laws.FnApartBound", spec := "fnApartBound", unfollowed := true, recurses := true, apart := false }
def FnApartBoundSaid : Prop := fnApartBoundRow.holds Try.pinned (OpenSpec.ofChange fnApartBoundSpec)

/-- ITS FALSE NEIGHBOUR: 'it returns false'. Refute it at one input. -/
def fnApartBoundWrong : ChangeSpec := { name := "fnApartBound", fn := fun _ => fun
  | [d] => { results := [.lit (.bool false)], args := [d] }
  | _ => none }
def FnApartBoundWrongFalsely : Prop := fnApartBoundRow.holds Try.pinned (OpenSpec.ofChange fnApartBoundWrong)

/-- 'laws.FnExactJobsValid': WHATEVER THE INPUT: true; the input reads as it did. -/
def fnExactJobsValidSpec : ChangeSpec := { name := "fnExactJobsValid", fn := fun _ => fun
  | [d1, d2] => { results := [.lit (.bool true)], args := [d1, d2] }
  | _ => none }
def fnExactJobsValidRow : OpenClaim := { program := "ytecdngoknkmncaa", sum := "d58c41a77f4e343f17f36ebdc635890433f66ca8e58cc3b6141d7d77fab05823", func := "loop.example/wholenet/laws.FnExactJobsValid", spec := "fnExactJobsValid", unfollowed := true, recurses := true, apart := false }
def FnExactJobsValidSaid : Prop := fnExactJobsValidRow.holds Try.pinned (OpenSpec.ofChange fnExactJobsValidSpec)

/-- ITS FALSE NEIGHBOUR: 'it returns false'. Refute it at one input. -/
def fnExactJobsValidWrong : ChangeSpec := { name := "fnExactJobsValid", fn := fun _ => fun
  | [d1, d2] => { results := [.lit (.bool false)], args := [d1, d2] }
  | _ => none }
def FnExactJobsValidWrongFalsely : Prop := fnExactJobsValidRow.holds Try.pinned (OpenSpec.ofChange fnExactJobsValidWrong)

/-- 'laws.FnExactWaitsBefore': WHATEVER THE INPUT: true; the input reads as it did. -/
def fnExactWaitsBeforeSpec : ChangeSpec := { name := "fnExactWaitsBefore", fn := fun _ => fun
  | [d1, d2, d3] => { results := [.lit (.bool true)], args := [d1, d2, d3] }
  | _ => none }
def fnExactWaitsBeforeRow : OpenClaim := { program := "ytecdngoknkmncaa", sum := "d58c41a77f4e343f17f36ebdc635890433f66ca8e58cc3b6141d7d77fab05823", func := "loop.example/wholenet/laws.FnExactWaitsBefore", spec := "fnExactWaitsBefore", unfollowed := true, recurses := true, apart := false }
def FnExactWaitsBeforeSaid : Prop := fnExactWaitsBeforeRow.holds Try.pinned (OpenSpec.ofChange fnExactWaitsBeforeSpec)

/-- ITS FALSE NEIGHBOUR: 'it returns false'. Refute it at one input. -/
def fnExactWaitsBeforeWrong : ChangeSpec := { name := "fnExactWaitsBefore", fn := fun _ => fun
  | [d1, d2, d3] => { results := [.lit (.bool false)], args := [d1, d2, d3] }
  | _ => none }
def FnExactWaitsBeforeWrongFalsely : Prop := fnExactWaitsBeforeRow.holds Try.pinned (OpenSpec.ofChange fnExactWaitsBeforeWrong)

/-- 'laws.FnWaits': WHATEVER THE INPUT: true; the input reads as it did. -/
def fnWaitsSpec : ChangeSpec := { name := "fnWaits", fn := fun _ => fun
  | [d] => { results := [.lit (.bool true)], args := [d] }
  | _ => none }
def fnWaitsRow : OpenClaim := { program := "ytecdngoknkmncaa", sum := "d58c41a77f4e343f17f36ebdc635890433f66ca8e58cc3b6141d7d77fab05823", func := "loop.example/wholenet/laws.FnWaits", spec := "fnWaits", unfollowed := true, recurses := true, apart := false }
def FnWaitsSaid : Prop := fnWaitsRow.holds Try.pinned (OpenSpec.ofChange fnWaitsSpec)

/-- ITS FALSE NEIGHBOUR: 'it returns false'. Refute it at one input. -/
def fnWaitsWrong : ChangeSpec := { name := "fnWaits", fn := fun _ => fun
  | [d] => { results := [.lit (.bool false)], args := [d] }
  | _ => none }
def FnWaitsWrongFalsely : Prop := fnWaitsRow.holds Try.pinned (OpenSpec.ofChange fnWaitsWrong)

/- THE SECOND FORM. 'bulk': how many values and letters a reading holds, each counted each time it is reached (what is shared counts as often as it is met; a slice's spare places count too). A statement '..UptoSaid' is the law's where the arguments, and the package variables that the reading takes, are together of bulk at most 1048576: NARROWER than '..Said'. Prove '..Said' where nothing that the law and all that it calls make is longer than what came in: it says more and counts as full. Else prove '..UptoSaid'. A law counts once. -/
mutual
def uptoBulk {H : Type} : DataW H → Nat
  | .lit (.string bytes) => bytes.length + 1
  | .lit _ => 1
  | .nil => 1
  | .ptr d => uptoBulk d + 1
  | .slice elems spare => uptoBulkAll elems + uptoBulkAll spare + 1
  | .agg parts => uptoBulkAll parts + 1
  | .iface _ d => uptoBulk d + 1
  | .map entries => uptoBulkEntries entries + 1
  | .held _ => 1
def uptoBulkAll {H : Type} : List (DataW H) → Nat
  | [] => 0
  | d :: r => uptoBulk d + uptoBulkAll r
def uptoBulkEntries {H : Type} : List (Lit × DataW H) → Nat
  | [] => 0
  | x :: r => uptoBulkEntry x + uptoBulkEntries r
def uptoBulkEntry {H : Type} : Lit × DataW H → Nat
  | (.string bytes, d) => bytes.length + uptoBulk d + 1
  | (_, d) => uptoBulk d + 1
 end
def uptoSmall : (H : Type) → List (DataW H) → Bool := fun _ ds => decide (uptoBulkAll ds ≤ 1048576)
def OpenSpec.upto (s : _root_.Go.ChangeSpec) : _root_.Go.OpenSpec := { _root_.Go.OpenSpec.ofChange s with cond := some uptoSmall }

/-- 'laws.FnExactApartBound', WHERE WHAT IT READS IS OF BULK AT MOST 1048576: true; the input reads as it did. -/
def fnExactApartBoundUptoRow : OpenClaim := { program := "ytecdngoknkmncaa", sum := "d58c41a77f4e343f17f36ebdc635890433f66ca8e58cc3b6141d7d77fab05823", func := "loop.example/wholenet/laws.FnExactApartBound", spec := "fnExactApartBound", unfollowed := true, recurses := true, apart := false, narrowed := true }
def FnExactApartBoundUptoSaid : Prop := fnExactApartBoundUptoRow.holds Try.pinned (OpenSpec.upto fnExactApartBoundSpec)

/-- 'laws.FnApartBound', WHERE WHAT IT READS IS OF BULK AT MOST 1048576: true; the input reads as it did. -/
def fnApartBoundUptoRow : OpenClaim := { program := "ytecdngoknkmncaa", sum := "d58c41a77f4e343f17f36ebdc635890433f66ca8e58cc3b6141d7d77fab05823", func := "loop.example/wholenet/laws.FnApartBound", spec := "fnApartBound", unfollowed := true, recurses := true, apart := false, narrowed := true }
def FnApartBoundUptoSaid : Prop := fnApartBoundUptoRow.holds Try.pinned (OpenSpec.upto fnApartBoundSpec)

/-- 'laws.FnExactJobsValid', WHERE WHAT IT READS IS OF BULK AT MOST 1048576: true; the input reads as it did. -/
def fnExactJobsValidUptoRow : OpenClaim := { program := "ytecdngoknkmncaa", sum := "d58c41a77f4e343f17f36ebdc635890433f66ca8e58cc3b6141d7d77fab05823", func := "loop.example/wholenet/laws.FnExactJobsValid", spec := "fnExactJobsValid", unfollowed := true, recurses := true, apart := false, narrowed := true }
def FnExactJobsValidUptoSaid : Prop := fnExactJobsValidUptoRow.holds Try.pinned (OpenSpec.upto fnExactJobsValidSpec)

/-- 'laws.FnExactWaitsBefore', WHERE WHAT IT READS IS OF BULK AT MOST 1048576: true; the input reads as it did. -/
def fnExactWaitsBeforeUptoRow : OpenClaim := { program := "ytecdngoknkmncaa", sum := "d58c41a77f4e343f17f36ebdc635890433f66ca8e58cc3b6141d7d77fab05823", func := "loop.example/wholenet/laws.FnExactWaitsBefore", spec := "fnExactWaitsBefore", unfollowed := true, recurses := true, apart := false, narrowed := true }
def FnExactWaitsBeforeUptoSaid : Prop := fnExactWaitsBeforeUptoRow.holds Try.pinned (OpenSpec.upto fnExactWaitsBeforeSpec)

/-- 'laws.FnWaits', WHERE WHAT IT READS IS OF BULK AT MOST 1048576: true; the input reads as it did. -/
def fnWaitsUptoRow : OpenClaim := { program := "ytecdngoknkmncaa", sum := "d58c41a77f4e343f17f36ebdc635890433f66ca8e58cc3b6141d7d77fab05823", func := "loop.example/wholenet/laws.FnWaits", spec := "fnWaits", unfollowed := true, recurses := true, apart := false, narrowed := true }
def FnWaitsUptoSaid : Prop := fnWaitsUptoRow.holds Try.pinned (OpenSpec.upto fnWaitsSpec)

end Rows
end Go.Proofs.Ytecdngoknkmncaa
