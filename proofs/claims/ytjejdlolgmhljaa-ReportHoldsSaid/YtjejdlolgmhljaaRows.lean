/-
  No cell of these rows narrows 'for every input' (looked for: loops, veiled, ifaces, maps, wideKeys, modest, calm, conditions, laid).
  DERIVED. THE GIVEN ROWS OF THIS SEAT. 5 by the template 'for every input the law returns true; each argument reads behind the call as it read before'; 0 by the template 'total and deterministic' (their statements: YtjejdlolgmhljaaTotals.lean).
  GIVEN WITH THE SEED: the statements are not yours to turn. If you find one false, say at which input.
  Laid BY PROGRAM, IN A SANDBOX (cutbox-rows.mjs): the forced cells as the released guide's own fill.sh prints them over the translation c6c39a7b57002d94… (all of the seat's roots in one cut). By AI agents, Wed Nov 11 2026. No macro, syntax, notation, axiom, sorry.
-/
import Derived.Test.YtjejdlolgmhljaaChecked
import GoSem.Claim
import GoSem.ClaimJoined
import GoSem.ClaimMapViews
import Derived.JoinedTies
import Derived.KernelRfl
namespace Go.Proofs.Ytjejdlolgmhljaa
/- THE CELL 'sum', in the pinned program and in every row, IS THE sha256 OF THE DUMP (.gsa) THAT YtjejdlolgmhljaaProg.lean LOADS. Nothing in Lean hashes anything: it is a label: what it is worth is what the hold of that sum in a sandbox is worth. -/
noncomputable def Try.pinned : Pinned := { name := "ytjejdlolgmhljaa", sum := "c6c39a7b57002d9471d2b94b29214d320d2f57cb5c6396d398ea1f2dbf7c5b19", checked := Try.checked }
namespace Rows
def none {H : Type} : Left H := { results := [], args := [] }

/-- 'userplanelaw26.ReportGroups': WHATEVER THE INPUT: true; the input reads as it did. -/
def reportGroupsSpec : ChangeSpec := { name := "reportGroups", fn := fun _ => fun
  | [d1, d2] => { results := [.lit (.bool true)], args := [d1, d2] }
  | _ => none }
def reportGroupsRow : OpenClaim := { program := "ytjejdlolgmhljaa", sum := "c6c39a7b57002d9471d2b94b29214d320d2f57cb5c6396d398ea1f2dbf7c5b19", func := "userplane/userplanelaw26.ReportGroups", spec := "reportGroups", unfollowed := true, recurses := true, apart := false }
def ReportGroupsSaid : Prop := reportGroupsRow.holds Try.pinned (OpenSpec.ofChange reportGroupsSpec)

/-- ITS FALSE NEIGHBOUR: 'it returns false'. Refute it at one input. -/
def reportGroupsWrong : ChangeSpec := { name := "reportGroups", fn := fun _ => fun
  | [d1, d2] => { results := [.lit (.bool false)], args := [d1, d2] }
  | _ => none }
def ReportGroupsWrongFalsely : Prop := reportGroupsRow.holds Try.pinned (OpenSpec.ofChange reportGroupsWrong)

/-- 'userplanelaw26.ReportHolds': WHATEVER THE INPUT: true; the input reads as it did. -/
def reportHoldsSpec : ChangeSpec := { name := "reportHolds", fn := fun _ => fun
  | [d1, d2, d3] => { results := [.lit (.bool true)], args := [d1, d2, d3] }
  | _ => none }
def reportHoldsRow : OpenClaim := { program := "ytjejdlolgmhljaa", sum := "c6c39a7b57002d9471d2b94b29214d320d2f57cb5c6396d398ea1f2dbf7c5b19", func := "userplane/userplanelaw26.ReportHolds", spec := "reportHolds", unfollowed := true, recurses := true, apart := false }
def ReportHoldsSaid : Prop := reportHoldsRow.holds Try.pinned (OpenSpec.ofChange reportHoldsSpec)

/-- ITS FALSE NEIGHBOUR: 'it returns false'. Refute it at one input. -/
def reportHoldsWrong : ChangeSpec := { name := "reportHolds", fn := fun _ => fun
  | [d1, d2, d3] => { results := [.lit (.bool false)], args := [d1, d2, d3] }
  | _ => none }
def ReportHoldsWrongFalsely : Prop := reportHoldsRow.holds Try.pinned (OpenSpec.ofChange reportHoldsWrong)

/-- 'userplanelaw26.ReportPlays': WHATEVER THE INPUT: true; the input reads as it did. -/
def reportPlaysSpec : ChangeSpec := { name := "reportPlays", fn := fun _ => fun
  | [d1, d2] => { results := [.lit (.bool true)], args := [d1, d2] }
  | _ => none }
def reportPlaysRow : OpenClaim := { program := "ytjejdlolgmhljaa", sum := "c6c39a7b57002d9471d2b94b29214d320d2f57cb5c6396d398ea1f2dbf7c5b19", func := "userplane/userplanelaw26.ReportPlays", spec := "reportPlays", unfollowed := true, recurses := true, apart := false }
def ReportPlaysSaid : Prop := reportPlaysRow.holds Try.pinned (OpenSpec.ofChange reportPlaysSpec)

/-- ITS FALSE NEIGHBOUR: 'it returns false'. Refute it at one input. -/
def reportPlaysWrong : ChangeSpec := { name := "reportPlays", fn := fun _ => fun
  | [d1, d2] => { results := [.lit (.bool false)], args := [d1, d2] }
  | _ => none }
def ReportPlaysWrongFalsely : Prop := reportPlaysRow.holds Try.pinned (OpenSpec.ofChange reportPlaysWrong)

/-- 'userplanelaw26.ReportCopies': WHATEVER THE INPUT: true; the input reads as it did. -/
def reportCopiesSpec : ChangeSpec := { name := "reportCopies", fn := fun _ => fun
  | [d1, d2, d3, d4] => { results := [.lit (.bool true)], args := [d1, d2, d3, d4] }
  | _ => none }
def reportCopiesRow : OpenClaim := { program := "ytjejdlolgmhljaa", sum := "c6c39a7b57002d9471d2b94b29214d320d2f57cb5c6396d398ea1f2dbf7c5b19", func := "userplane/userplanelaw26.ReportCopies", spec := "reportCopies", unfollowed := true, recurses := true, apart := false }
def ReportCopiesSaid : Prop := reportCopiesRow.holds Try.pinned (OpenSpec.ofChange reportCopiesSpec)

/-- ITS FALSE NEIGHBOUR: 'it returns false'. Refute it at one input. -/
def reportCopiesWrong : ChangeSpec := { name := "reportCopies", fn := fun _ => fun
  | [d1, d2, d3, d4] => { results := [.lit (.bool false)], args := [d1, d2, d3, d4] }
  | _ => none }
def ReportCopiesWrongFalsely : Prop := reportCopiesRow.holds Try.pinned (OpenSpec.ofChange reportCopiesWrong)

/-- 'userplanelaw26.ReportNone': WHATEVER THE INPUT: true; the input reads as it did. -/
def reportNoneSpec : ChangeSpec := { name := "reportNone", fn := fun _ => fun
  | [d1, d2] => { results := [.lit (.bool true)], args := [d1, d2] }
  | _ => none }
def reportNoneRow : OpenClaim := { program := "ytjejdlolgmhljaa", sum := "c6c39a7b57002d9471d2b94b29214d320d2f57cb5c6396d398ea1f2dbf7c5b19", func := "userplane/userplanelaw26.ReportNone", spec := "reportNone", unfollowed := true, recurses := true, apart := false }
def ReportNoneSaid : Prop := reportNoneRow.holds Try.pinned (OpenSpec.ofChange reportNoneSpec)

/-- ITS FALSE NEIGHBOUR: 'it returns false'. Refute it at one input. -/
def reportNoneWrong : ChangeSpec := { name := "reportNone", fn := fun _ => fun
  | [d1, d2] => { results := [.lit (.bool false)], args := [d1, d2] }
  | _ => none }
def ReportNoneWrongFalsely : Prop := reportNoneRow.holds Try.pinned (OpenSpec.ofChange reportNoneWrong)

/- THE SECOND FORM. 'bulk': how many values and letters a reading holds, each counted each time it is reached (what is shared counts as often as it is met; a slice's spare places count too). A statement '..UptoSaid' is the law's where the arguments, and the package variables that the reading takes, are together of bulk at most 1048576: NARROWER than '..Said'. Prove '..Said' where nothing that the law and all that it calls make is longer than what came in: it says more and counts as full. Else prove '..UptoSaid'. A law counts once. -/
mutual
def uptoBulk {H : Type} : DataW H → Nat
  | .lit (.string bytes) => bytes.length + 1
  | .lit _ => 1
  | .nil => 1
  | .ptr d => uptoBulk d + 1
  | .slice elems spare => uptoBulkAll elems + uptoBulkAll spare + 1
  | .agg parts => uptoBulkAll parts + 1
  | .iface _ d => uptoBulk d + 1
  | .map entries => uptoBulkEntries entries + 1
  | .held _ => 1
def uptoBulkAll {H : Type} : List (DataW H) → Nat
  | [] => 0
  | d :: r => uptoBulk d + uptoBulkAll r
def uptoBulkEntries {H : Type} : List (Lit × DataW H) → Nat
  | [] => 0
  | x :: r => uptoBulkEntry x + uptoBulkEntries r
def uptoBulkEntry {H : Type} : Lit × DataW H → Nat
  | (.string bytes, d) => bytes.length + uptoBulk d + 1
  | (_, d) => uptoBulk d + 1
 end
def uptoSmall : (H : Type) → List (DataW H) → Bool := fun _ ds => decide (uptoBulkAll ds ≤ 1048576)
def OpenSpec.upto (s : _root_.Go.ChangeSpec) : _root_.Go.OpenSpec := { _root_.Go.OpenSpec.ofChange s with cond := some uptoSmall }

/-- 'userplanelaw26.ReportGroups', WHERE WHAT IT READS IS OF BULK AT MOST 1048576: true; the input reads as it did. -/
def reportGroupsUptoRow : OpenClaim := { program := "ytjejdlolgmhljaa", sum := "c6c39a7b57002d9471d2b94b29214d320d2f57cb5c6396d398ea1f2dbf7c5b19", func := "userplane/userplanelaw26.ReportGroups", spec := "reportGroups", unfollowed := true, recurses := true, apart := false, narrowed := true }
def ReportGroupsUptoSaid : Prop := reportGroupsUptoRow.holds Try.pinned (OpenSpec.upto reportGroupsSpec)

/-- 'userplanelaw26.ReportHolds', WHERE WHAT IT READS IS OF BULK AT MOST 1048576: true; the input reads as it did. -/
def reportHoldsUptoRow : OpenClaim := { program := "ytjejdlolgmhljaa", sum := "c6c39a7b57002d9471d2b94b29214d320d2f57cb5c6396d398ea1f2dbf7c5b19", func := "userplane/userplanelaw26.ReportHolds", spec := "reportHolds", unfollowed := true, recurses := true, apart := false, narrowed := true }
def ReportHoldsUptoSaid : Prop := reportHoldsUptoRow.holds Try.pinned (OpenSpec.upto reportHoldsSpec)

/-- 'userplanelaw26.ReportPlays', WHERE WHAT IT READS IS OF BULK AT MOST 1048576: true; the input reads as it did. -/
def reportPlaysUptoRow : OpenClaim := { program := "ytjejdlolgmhljaa", sum := "c6c39a7b57002d9471d2b94b29214d320d2f57cb5c6396d398ea1f2dbf7c5b19", func := "userplane/userplanelaw26.ReportPlays", spec := "reportPlays", unfollowed := true, recurses := true, apart := false, narrowed := true }
def ReportPlaysUptoSaid : Prop := reportPlaysUptoRow.holds Try.pinned (OpenSpec.upto reportPlaysSpec)

/-- 'userplanelaw26.ReportCopies', WHERE WHAT IT READS IS OF BULK AT MOST 1048576: true; the input reads as it did. -/
def reportCopiesUptoRow : OpenClaim := { program := "ytjejdlolgmhljaa", sum := "c6c39a7b57002d9471d2b94b29214d320d2f57cb5c6396d398ea1f2dbf7c5b19", func := "userplane/userplanelaw26.ReportCopies", spec := "reportCopies", unfollowed := true, recurses := true, apart := false, narrowed := true }
def ReportCopiesUptoSaid : Prop := reportCopiesUptoRow.holds Try.pinned (OpenSpec.upto reportCopiesSpec)

/-- 'userplanelaw26.ReportNone', WHERE WHAT IT READS IS OF BULK AT MOST 1048576: true; the input reads as it did. -/
def reportNoneUptoRow : OpenClaim := { program := "ytjejdlolgmhljaa", sum := "c6c39a7b57002d9471d2b94b29214d320d2f57cb5c6396d398ea1f2dbf7c5b19", func := "userplane/userplanelaw26.ReportNone", spec := "reportNone", unfollowed := true, recurses := true, apart := false, narrowed := true }
def ReportNoneUptoSaid : Prop := reportNoneUptoRow.holds Try.pinned (OpenSpec.upto reportNoneSpec)

end Rows
end Go.Proofs.Ytjejdlolgmhljaa
