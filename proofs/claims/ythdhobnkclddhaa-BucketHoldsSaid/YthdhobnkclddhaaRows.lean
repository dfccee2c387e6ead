/-
  No cell of these rows narrows 'for every input' (looked for: loops, veiled, ifaces, maps, wideKeys, modest, calm, conditions, laid).
  DERIVED. THE GIVEN ROWS OF THIS SEAT. 5 by the template 'for every input the law returns true; each argument reads behind the call as it read before'; 0 by the template 'total and deterministic' (their statements: YthdhobnkclddhaaTotals.lean).
  GIVEN WITH THE SEED: the statements are not yours to turn. If you find one false, say at which input.
  Laid BY PROGRAM, IN A SANDBOX (cutbox-rows.mjs): the forced cells as the released guide's own fill.sh prints them over the translation c8ff952657b2502a… (all of the seat's roots in one cut). By AI agents, Wed Nov 11 2026. No macro, syntax, notation, axiom, sorry.
-/
import Derived.Test.YthdhobnkclddhaaChecked
import GoSem.Claim
import GoSem.ClaimJoined
import GoSem.ClaimMapViews
import Derived.JoinedTies
import Derived.KernelRfl
namespace Go.Proofs.Ythdhobnkclddhaa
/- THE CELL 'sum', in the pinned program and in every row, IS THE sha256 OF THE DUMP (.gsa) THAT YthdhobnkclddhaaProg.lean LOADS. Nothing in Lean hashes anything: it is a label: what it is worth is what the hold of that sum in a sandbox is worth. -/
noncomputable def Try.pinned : Pinned := { name := "ythdhobnkclddhaa", sum := "c8ff952657b2502ac72aa1b772dd3cc42d49564a2a2d189fb1dbbcb57032c80b", checked := Try.checked }
namespace Rows
def none {H : Type} : Left H := { results := [], args := [] }

/-- 'userplanelaw25.BucketOrders': WHATEVER THE INPUT: true; the input reads as it did. -/
def bucketOrdersSpec : ChangeSpec := { name := "bucketOrders", fn := fun _ => fun
  | [d1, d2] => { results := [.lit (.bool true)], args := [d1, d2] }
  | _ => none }
def bucketOrdersRow : OpenClaim := { program := "ythdhobnkclddhaa", sum := "c8ff952657b2502ac72aa1b772dd3cc42d49564a2a2d189fb1dbbcb57032c80b", func := "userplane/userplanelaw25.BucketOrders", spec := "bucketOrders", unfollowed := true, recurses := true, apart := false }
def BucketOrdersSaid : Prop := bucketOrdersRow.holds Try.pinned (OpenSpec.ofChange bucketOrdersSpec)

/-- ITS FALSE NEIGHBOUR: 'it returns false'. Refute it at one input. -/
def bucketOrdersWrong : ChangeSpec := { name := "bucketOrders", fn := fun _ => fun
  | [d1, d2] => { results := [.lit (.bool false)], args := [d1, d2] }
  | _ => none }
def BucketOrdersWrongFalsely : Prop := bucketOrdersRow.holds Try.pinned (OpenSpec.ofChange bucketOrdersWrong)

/-- 'userplanelaw25.BucketHolds': WHATEVER THE INPUT: true; the input reads as it did. -/
def bucketHoldsSpec : ChangeSpec := { name := "bucketHolds", fn := fun _ => fun
  | [d1, d2, d3, d4, d5] => { results := [.lit (.bool true)], args := [d1, d2, d3, d4, d5] }
  | _ => none }
def bucketHoldsRow : OpenClaim := { program := "ythdhobnkclddhaa", sum := "c8ff952657b2502ac72aa1b772dd3cc42d49564a2a2d189fb1dbbcb57032c80b", func := "userplane/userplanelaw25.BucketHolds", spec := "bucketHolds", unfollowed := true, recurses := true, apart := false }
def BucketHoldsSaid : Prop := bucketHoldsRow.holds Try.pinned (OpenSpec.ofChange bucketHoldsSpec)

/-- ITS FALSE NEIGHBOUR: 'it returns false'. Refute it at one input. -/
def bucketHoldsWrong : ChangeSpec := { name := "bucketHolds", fn := fun _ => fun
  | [d1, d2, d3, d4, d5] => { results := [.lit (.bool false)], args := [d1, d2, d3, d4, d5] }
  | _ => none }
def BucketHoldsWrongFalsely : Prop := bucketHoldsRow.holds Try.pinned (OpenSpec.ofChange bucketHoldsWrong)

/-- 'userplanelaw25.BucketPlays': WHATEVER THE INPUT: true; the input reads as it did. -/
def bucketPlaysSpec : ChangeSpec := { name := "bucketPlays", fn := fun _ => fun
  | [d1, d2] => { results := [.lit (.bool true)], args := [d1, d2] }
  | _ => none }
def bucketPlaysRow : OpenClaim := { program := "ythdhobnkclddhaa", sum := "c8ff952657b2502ac72aa1b772dd3cc42d49564a2a2d189fb1dbbcb57032c80b", func := "userplane/userplanelaw25.BucketPlays", spec := "bucketPlays", unfollowed := true, recurses := true, apart := false }
def BucketPlaysSaid : Prop := bucketPlaysRow.holds Try.pinned (OpenSpec.ofChange bucketPlaysSpec)

/-- ITS FALSE NEIGHBOUR: 'it returns false'. Refute it at one input. -/
def bucketPlaysWrong : ChangeSpec := { name := "bucketPlays", fn := fun _ => fun
  | [d1, d2] => { results := [.lit (.bool false)], args := [d1, d2] }
  | _ => none }
def BucketPlaysWrongFalsely : Prop := bucketPlaysRow.holds Try.pinned (OpenSpec.ofChange bucketPlaysWrong)

/-- 'userplanelaw25.BucketCopies': WHATEVER THE INPUT: true; the input reads as it did. -/
def bucketCopiesSpec : ChangeSpec := { name := "bucketCopies", fn := fun _ => fun
  | [d1, d2, d3, d4] => { results := [.lit (.bool true)], args := [d1, d2, d3, d4] }
  | _ => none }
def bucketCopiesRow : OpenClaim := { program := "ythdhobnkclddhaa", sum := "c8ff952657b2502ac72aa1b772dd3cc42d49564a2a2d189fb1dbbcb57032c80b", func := "userplane/userplanelaw25.BucketCopies", spec := "bucketCopies", unfollowed := true, recurses := true, apart := false }
def BucketCopiesSaid : Prop := bucketCopiesRow.holds Try.pinned (OpenSpec.ofChange bucketCopiesSpec)

/-- ITS FALSE NEIGHBOUR: 'it returns false'. Refute it at one input. -/
def bucketCopiesWrong : ChangeSpec := { name := "bucketCopies", fn := fun _ => fun
  | [d1, d2, d3, d4] => { results := [.lit (.bool false)], args := [d1, d2, d3, d4] }
  | _ => none }
def BucketCopiesWrongFalsely : Prop := bucketCopiesRow.holds Try.pinned (OpenSpec.ofChange bucketCopiesWrong)

/-- 'userplanelaw25.BucketNone': WHATEVER THE INPUT: true; the input reads as it did. -/
def bucketNoneSpec : ChangeSpec := { name := "bucketNone", fn := fun _ => fun
  | [d1, d2, d3, d4] => { results := [.lit (.bool true)], args := [d1, d2, d3, d4] }
  | _ => none }
def bucketNoneRow : OpenClaim := { program := "ythdhobnkclddhaa", sum := "c8ff952657b2502ac72aa1b772dd3cc42d49564a2a2d189fb1dbbcb57032c80b", func := "userplane/userplanelaw25.BucketNone", spec := "bucketNone", unfollowed := true, recurses := true, apart := false }
def BucketNoneSaid : Prop := bucketNoneRow.holds Try.pinned (OpenSpec.ofChange bucketNoneSpec)

/-- ITS FALSE NEIGHBOUR: 'it returns false'. Refute it at one input. -/
def bucketNoneWrong : ChangeSpec := { name := "bucketNone", fn := fun _ => fun
  | [d1, d2, d3, d4] => { results := [.lit (.bool false)], args := [d1, d2, d3, d4] }
  | _ => none }
def BucketNoneWrongFalsely : Prop := bucketNoneRow.holds Try.pinned (OpenSpec.ofChange bucketNoneWrong)

/- THE SECOND FORM. 'bulk': how many values and letters a reading holds, each counted each time it is reached (what is shared counts as often as it is met; a slice's spare places count too). A statement '..UptoSaid' is the law's where the arguments, and the package variables that the reading takes, are together of bulk at most 1048576: NARROWER than '..Said'. Prove '..Said' where nothing that the law and all that it calls make is longer than what came in: it says more and counts as full. Else prove '..UptoSaid'. A law counts once. -/
mutual
def uptoBulk {H : Type} : DataW H → Nat
  | .lit (.string bytes) => bytes.length + 1
  | .lit _ => 1
  | .nil => 1
  | .ptr d => uptoBulk d + 1
  | .slice elems spare => uptoBulkAll elems + uptoBulkAll spare + 1
  | .agg parts => uptoBulkAll parts + 1
  | .iface _ d => uptoBulk d + 1
  | .map entries => uptoBulkEntries entries + 1
  | .held _ => 1
def uptoBulkAll {H : Type} : List (DataW H) → Nat
  | [] => 0
  | d :: r => uptoBulk d + uptoBulkAll r
def uptoBulkEntries {H : Type} : List (Lit × DataW H) → Nat
  | [] => 0
  | x :: r => uptoBulkEntry x + uptoBulkEntries r
def uptoBulkEntry {H : Type} : Lit × DataW H → Nat
  | (.string bytes, d) => bytes.length + uptoBulk d + 1
  | (_, d) => uptoBulk d + 1
 end
def uptoSmall : (H : Type) → List (DataW H) → Bool := fun _ ds => decide (uptoBulkAll ds ≤ 1048576)
def OpenSpec.upto (s : _root_.Go.ChangeSpec) : _root_.Go.OpenSpec := { _root_.Go.OpenSpec.ofChange s with cond := some uptoSmall }

/-- 'userplanelaw25.BucketOrders', WHERE WHAT IT READS IS OF BULK AT MOST 1048576: true; the input reads as it did. -/
def bucketOrdersUptoRow : OpenClaim := { program := "ythdhobnkclddhaa", sum := "c8ff952657b2502ac72aa1b772dd3cc42d49564a2a2d189fb1dbbcb57032c80b", func := "userplane/userplanelaw25.BucketOrders", spec := "bucketOrders", unfollowed := true, recurses := true, apart := false, narrowed := true }
def BucketOrdersUptoSaid : Prop := bucketOrdersUptoRow.holds Try.pinned (OpenSpec.upto bucketOrdersSpec)

/-- 'userplanelaw25.BucketHolds', WHERE WHAT IT READS IS OF BULK AT MOST 1048576: true; the input reads as it did. -/
def bucketHoldsUptoRow : OpenClaim := { program := "ythdhobnkclddhaa", sum := "c8ff952657b2502ac72aa1b772dd3cc42d49564a2a2d189fb1dbbcb57032c80b", func := "userplane/userplanelaw25.BucketHolds", spec := "bucketHolds", unfollowed := true, recurses := true, apart := false, narrowed := true }
def BucketHoldsUptoSaid : Prop := bucketHoldsUptoRow.holds Try.pinned (OpenSpec.upto bucketHoldsSpec)

/-- 'userplanelaw25.BucketPlays', WHERE WHAT IT READS IS OF BULK AT MOST 1048576: true; the input reads as it did. -/
def bucketPlaysUptoRow : OpenClaim := { program := "ythdhobnkclddhaa", sum := "c8ff952657b2502ac72aa1b772dd3cc42d49564a2a2d189fb1dbbcb57032c80b", func := "userplane/userplanelaw25.BucketPlays", spec := "bucketPlays", unfollowed := true, recurses := true, apart := false, narrowed := true }
def BucketPlaysUptoSaid : Prop := bucketPlaysUptoRow.holds Try.pinned (OpenSpec.upto bucketPlaysSpec)

/-- 'userplanelaw25.BucketCopies', WHERE WHAT IT READS IS OF BULK AT MOST 1048576: true; the input reads as it did. -/
def bucketCopiesUptoRow : OpenClaim := { program := "ythdhobnkclddhaa", sum := "c8ff952657b2502ac72aa1b772dd3cc42d49564a2a2d189fb1dbbcb57032c80b", func := "userplane/userplanelaw25.BucketCopies", spec := "bucketCopies", unfollowed := true, recurses := true, apart := false, narrowed := true }
def BucketCopiesUptoSaid : Prop := bucketCopiesUptoRow.holds Try.pinned (OpenSpec.upto bucketCopiesSpec)

/-- 'userplanelaw25.BucketNone', WHERE WHAT IT READS IS OF BULK AT MOST 1048576: true; the input reads as it did. -/
def bucketNoneUptoRow : OpenClaim := { program := "ythdhobnkclddhaa", sum := "c8ff952657b2502ac72aa1b772dd3cc42d49564a2a2d189fb1dbbcb57032c80b", func := "userplane/userplanelaw25.BucketNone", spec := "bucketNone", unfollowed := true, recurses := true, apart := false, narrowed := true }
def BucketNoneUptoSaid : Prop := bucketNoneUptoRow.holds Try.pinned (OpenSpec.upto bucketNoneSpec)

end Rows
end Go.Proofs.Ythdhobnkclddhaa
