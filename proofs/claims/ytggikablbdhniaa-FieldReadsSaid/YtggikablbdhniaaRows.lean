/-
  No cell of these rows narrows 'for every input' (looked for: loops, veiled, ifaces, maps, wideKeys, modest, calm, conditions, laid).
  DERIVED. THE GIVEN ROWS OF THIS SEAT. 6 by the template 'for every input the law returns true; each argument reads behind the call as it read before'; 0 by the template 'total and deterministic' (their statements: YtggikablbdhniaaTotals.lean).
  GIVEN WITH THE SEED: the statements are not yours to turn. If you find one false, say at which input.
  Laid BY PROGRAM, IN A SANDBOX (cutbox-rows.mjs): the forced cells as the released guide's own fill.sh prints them over the translation be8eddc80e8ef64e… (all of the seat's roots in one cut). By AI agents, Wed Nov 11 2026. No macro, syntax, notation, axiom, sorry.
-/
import Derived.Test.YtggikablbdhniaaChecked
import GoSem.Claim
import GoSem.ClaimJoined
import GoSem.ClaimMapViews
import Derived.JoinedTies
import Derived.KernelRfl
namespace Go.Proofs.Ytggikablbdhniaa
/- THE CELL 'sum', in the pinned program and in every row, IS THE sha256 OF THE DUMP (.gsa) THAT YtggikablbdhniaaProg.lean LOADS. Nothing in Lean hashes anything: it is a label: what it is worth is what the hold of that sum in a sandbox is worth. -/
noncomputable def Try.pinned : Pinned := { name := "ytggikablbdhniaa", sum := "be8eddc80e8ef64ea537ce5557c05eef70984a3b52eee542eb5afc630e3c6ad3", checked := Try.checked }
namespace Rows
def none {H : Type} : Left H := { results := [], args := [] }

/-- 'userplanelaw02.FieldWrites': WHATEVER THE INPUT: true; the input reads as it did. -/
def fieldWritesSpec : ChangeSpec := { name := "fieldWrites", fn := fun _ => fun
  | [d] => { results := [.lit (.bool true)], args := [d] }
  | _ => none }
def fieldWritesRow : OpenClaim := { program := "ytggikablbdhniaa", sum := "be8eddc80e8ef64ea537ce5557c05eef70984a3b52eee542eb5afc630e3c6ad3", func := "userplane/userplanelaw02.FieldWrites", spec := "fieldWrites", unfollowed := true, recurses := true, apart := false }
def FieldWritesSaid : Prop := fieldWritesRow.holds Try.pinned (OpenSpec.ofChange fieldWritesSpec)

/-- ITS FALSE NEIGHBOUR: 'it returns false'. Refute it at one input. -/
def fieldWritesWrong : ChangeSpec := { name := "fieldWrites", fn := fun _ => fun
  | [d] => { results := [.lit (.bool false)], args := [d] }
  | _ => none }
def FieldWritesWrongFalsely : Prop := fieldWritesRow.holds Try.pinned (OpenSpec.ofChange fieldWritesWrong)

/-- 'userplanelaw02.FieldOwn': WHATEVER THE INPUT: true; the input reads as it did. -/
def fieldOwnSpec : ChangeSpec := { name := "fieldOwn", fn := fun _ => fun
  | [d1, d2] => { results := [.lit (.bool true)], args := [d1, d2] }
  | _ => none }
def fieldOwnRow : OpenClaim := { program := "ytggikablbdhniaa", sum := "be8eddc80e8ef64ea537ce5557c05eef70984a3b52eee542eb5afc630e3c6ad3", func := "userplane/userplanelaw02.FieldOwn", spec := "fieldOwn", unfollowed := true, recurses := true, apart := false }
def FieldOwnSaid : Prop := fieldOwnRow.holds Try.pinned (OpenSpec.ofChange fieldOwnSpec)

/-- ITS FALSE NEIGHBOUR: 'it returns false'. Refute it at one input. -/
def fieldOwnWrong : ChangeSpec := { name := "fieldOwn", fn := fun _ => fun
  | [d1, d2] => { results := [.lit (.bool false)], args := [d1, d2] }
  | _ => none }
def FieldOwnWrongFalsely : Prop := fieldOwnRow.holds Try.pinned (OpenSpec.ofChange fieldOwnWrong)

/-- 'userplanelaw02.FieldCuts': WHATEVER THE INPUT: true; the input reads as it did. -/
def fieldCutsSpec : ChangeSpec := { name := "fieldCuts", fn := fun _ => fun
  | [d1, d2] => { results := [.lit (.bool true)], args := [d1, d2] }
  | _ => none }
def fieldCutsRow : OpenClaim := { program := "ytggikablbdhniaa", sum := "be8eddc80e8ef64ea537ce5557c05eef70984a3b52eee542eb5afc630e3c6ad3", func := "userplane/userplanelaw02.FieldCuts", spec := "fieldCuts", unfollowed := true, recurses := true, apart := false }
def FieldCutsSaid : Prop := fieldCutsRow.holds Try.pinned (OpenSpec.ofChange fieldCutsSpec)

/-- ITS FALSE NEIGHBOUR: 'it returns false'. Refute it at one input. -/
def fieldCutsWrong : ChangeSpec := { name := "fieldCuts", fn := fun _ => fun
  | [d1, d2] => { results := [.lit (.bool false)], args := [d1, d2] }
  | _ => none }
def FieldCutsWrongFalsely : Prop := fieldCutsRow.holds Try.pinned (OpenSpec.ofChange fieldCutsWrong)

/-- 'userplanelaw02.FieldHolds': WHATEVER THE INPUT: true; the input reads as it did. -/
def fieldHoldsSpec : ChangeSpec := { name := "fieldHolds", fn := fun _ => fun
  | [d1, d2, d3] => { results := [.lit (.bool true)], args := [d1, d2, d3] }
  | _ => none }
def fieldHoldsRow : OpenClaim := { program := "ytggikablbdhniaa", sum := "be8eddc80e8ef64ea537ce5557c05eef70984a3b52eee542eb5afc630e3c6ad3", func := "userplane/userplanelaw02.FieldHolds", spec := "fieldHolds", unfollowed := true, recurses := true, apart := false }
def FieldHoldsSaid : Prop := fieldHoldsRow.holds Try.pinned (OpenSpec.ofChange fieldHoldsSpec)

/-- ITS FALSE NEIGHBOUR: 'it returns false'. Refute it at one input. -/
def fieldHoldsWrong : ChangeSpec := { name := "fieldHolds", fn := fun _ => fun
  | [d1, d2, d3] => { results := [.lit (.bool false)], args := [d1, d2, d3] }
  | _ => none }
def FieldHoldsWrongFalsely : Prop := fieldHoldsRow.holds Try.pinned (OpenSpec.ofChange fieldHoldsWrong)

/-- 'userplanelaw02.FieldReads': WHATEVER THE INPUT: true; the input reads as it did. -/
def fieldReadsSpec : ChangeSpec := { name := "fieldReads", fn := fun _ => fun
  | [d1, d2] => { results := [.lit (.bool true)], args := [d1, d2] }
  | _ => none }
def fieldReadsRow : OpenClaim := { program := "ytggikablbdhniaa", sum := "be8eddc80e8ef64ea537ce5557c05eef70984a3b52eee542eb5afc630e3c6ad3", func := "userplane/userplanelaw02.FieldReads", spec := "fieldReads", unfollowed := true, recurses := true, apart := false }
def FieldReadsSaid : Prop := fieldReadsRow.holds Try.pinned (OpenSpec.ofChange fieldReadsSpec)

/-- ITS FALSE NEIGHBOUR: 'it returns false'. Refute it at one input. -/
def fieldReadsWrong : ChangeSpec := { name := "fieldReads", fn := fun _ => fun
  | [d1, d2] => { results := [.lit (.bool false)], args := [d1, d2] }
  | _ => none }
def FieldReadsWrongFalsely : Prop := fieldReadsRow.holds Try.pinned (OpenSpec.ofChange fieldReadsWrong)

/-- 'userplanelaw02.FieldNone': WHATEVER THE INPUT: true; the input reads as it did. -/
def fieldNoneSpec : ChangeSpec := { name := "fieldNone", fn := fun _ => fun
  | [d1, d2] => { results := [.lit (.bool true)], args := [d1, d2] }
  | _ => none }
def fieldNoneRow : OpenClaim := { program := "ytggikablbdhniaa", sum := "be8eddc80e8ef64ea537ce5557c05eef70984a3b52eee542eb5afc630e3c6ad3", func := "userplane/userplanelaw02.FieldNone", spec := "fieldNone", unfollowed := true, recurses := true, apart := false }
def FieldNoneSaid : Prop := fieldNoneRow.holds Try.pinned (OpenSpec.ofChange fieldNoneSpec)

/-- ITS FALSE NEIGHBOUR: 'it returns false'. Refute it at one input. -/
def fieldNoneWrong : ChangeSpec := { name := "fieldNone", fn := fun _ => fun
  | [d1, d2] => { results := [.lit (.bool false)], args := [d1, d2] }
  | _ => none }
def FieldNoneWrongFalsely : Prop := fieldNoneRow.holds Try.pinned (OpenSpec.ofChange fieldNoneWrong)

/- THE SECOND FORM. 'bulk': how many values and letters a reading holds, each counted each time it is reached (what is shared counts as often as it is met; a slice's spare places count too). A statement '..UptoSaid' is the law's where the arguments, and the package variables that the reading takes, are together of bulk at most 1048576: NARROWER than '..Said'. Prove '..Said' where nothing that the law and all that it calls make is longer than what came in: it says more and counts as full. Else prove '..UptoSaid'. A law counts once. -/
mutual
def uptoBulk {H : Type} : DataW H → Nat
  | .lit (.string bytes) => bytes.length + 1
  | .lit _ => 1
  | .nil => 1
  | .ptr d => uptoBulk d + 1
  | .slice elems spare => uptoBulkAll elems + uptoBulkAll spare + 1
  | .agg parts => uptoBulkAll parts + 1
  | .iface _ d => uptoBulk d + 1
  | .map entries => uptoBulkEntries entries + 1
  | .held _ => 1
def uptoBulkAll {H : Type} : List (DataW H) → Nat
  | [] => 0
  | d :: r => uptoBulk d + uptoBulkAll r
def uptoBulkEntries {H : Type} : List (Lit × DataW H) → Nat
  | [] => 0
  | x :: r => uptoBulkEntry x + uptoBulkEntries r
def uptoBulkEntry {H : Type} : Lit × DataW H → Nat
  | (.string bytes, d) => bytes.length + uptoBulk d + 1
  | (_, d) => uptoBulk d + 1
 end
def uptoSmall : (H : Type) → List (DataW H) → Bool := fun _ ds => decide (uptoBulkAll ds ≤ 1048576)
def OpenSpec.upto (s : _root_.Go.ChangeSpec) : _root_.Go.OpenSpec := { _root_.Go.OpenSpec.ofChange s with cond := some uptoSmall }

/-- 'userplanelaw02.FieldWrites', WHERE WHAT IT READS IS OF BULK AT MOST 1048576: true; the input reads as it did. -/
def fieldWritesUptoRow : OpenClaim := { program := "ytggikablbdhniaa", sum := "be8eddc80e8ef64ea537ce5557c05eef70984a3b52eee542eb5afc630e3c6ad3", func := "userplane/userplanelaw02.FieldWrites", spec := "fieldWrites", unfollowed := true, recurses := true, apart := false, narrowed := true }
def FieldWritesUptoSaid : Prop := fieldWritesUptoRow.holds Try.pinned (OpenSpec.upto fieldWritesSpec)

/-- 'userplanelaw02.FieldOwn', WHERE WHAT IT READS IS OF BULK AT MOST 1048576: true; the input reads as it did. -/
def fieldOwnUptoRow : OpenClaim := { program := "ytggikablbdhniaa", sum := "be8eddc80e8ef64ea537ce5557c05eef70984a3b52eee542eb5afc630e3c6ad3", func := "userplane/userplanelaw02.FieldOwn", spec := "fieldOwn", unfollowed := true, recurses := true, apart := false, narrowed := true }
def FieldOwnUptoSaid : Prop := fieldOwnUptoRow.holds Try.pinned (OpenSpec.upto fieldOwnSpec)

/-- 'userplanelaw02.FieldCuts', WHERE WHAT IT READS IS OF BULK AT MOST 1048576: true; the input reads as it did. -/
def fieldCutsUptoRow : OpenClaim := { program := "ytggikablbdhniaa", sum := "be8eddc80e8ef64ea537ce5557c05eef70984a3b52eee542eb5afc630e3c6ad3", func := "userplane/userplanelaw02.FieldCuts", spec := "fieldCuts", unfollowed := true, recurses := true, apart := false, narrowed := true }
def FieldCutsUptoSaid : Prop := fieldCutsUptoRow.holds Try.pinned (OpenSpec.upto fieldCutsSpec)

/-- 'userplanelaw02.FieldHolds', WHERE WHAT IT READS IS OF BULK AT MOST 1048576: true; the input reads as it did. -/
def fieldHoldsUptoRow : OpenClaim := { program := "ytggikablbdhniaa", sum := "be8eddc80e8ef64ea537ce5557c05eef70984a3b52eee542eb5afc630e3c6ad3", func := "userplane/userplanelaw02.FieldHolds", spec := "fieldHolds", unfollowed := true, recurses := true, apart := false, narrowed := true }
def FieldHoldsUptoSaid : Prop := fieldHoldsUptoRow.holds Try.pinned (OpenSpec.upto fieldHoldsSpec)

/-- 'userplanelaw02.FieldReads', WHERE WHAT IT READS IS OF BULK AT MOST 1048576: true; the input reads as it did. -/
def fieldReadsUptoRow : OpenClaim := { program := "ytggikablbdhniaa", sum := "be8eddc80e8ef64ea537ce5557c05eef70984a3b52eee542eb5afc630e3c6ad3", func := "userplane/userplanelaw02.FieldReads", spec := "fieldReads", unfollowed := true, recurses := true, apart := false, narrowed := true }
def FieldReadsUptoSaid : Prop := fieldReadsUptoRow.holds Try.pinned (OpenSpec.upto fieldReadsSpec)

/-- 'userplanelaw02.FieldNone', WHERE WHAT IT READS IS OF BULK AT MOST 1048576: true; the input reads as it did. -/
def fieldNoneUptoRow : OpenClaim := { program := "ytggikablbdhniaa", sum := "be8eddc80e8ef64ea537ce5557c05eef70984a3b52eee542eb5afc630e3c6ad3", func := "userplane/userplanelaw02.FieldNone", spec := "fieldNone", unfollowed := true, recurses := true, apart := false, narrowed := true }
def FieldNoneUptoSaid : Prop := fieldNoneUptoRow.holds Try.pinned (OpenSpec.upto fieldNoneSpec)

end Rows
end Go.Proofs.Ytggikablbdhniaa
