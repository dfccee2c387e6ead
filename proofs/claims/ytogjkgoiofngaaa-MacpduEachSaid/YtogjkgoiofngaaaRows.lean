/-
  No cell of these rows narrows 'for every input' (looked for: loops, veiled, ifaces, maps, wideKeys, modest, calm, conditions, laid).
  DERIVED. THE GIVEN ROWS OF THIS SEAT. 6 by the template 'for every input the law returns true; each argument reads behind the call as it read before'; 0 by the template 'total and deterministic' (their statements: YtogjkgoiofngaaaTotals.lean).
  GIVEN WITH THE SEED: the statements are not yours to turn. If you find one false, say at which input.
  Laid BY PROGRAM, IN A SANDBOX (cutbox-rows.mjs): the forced cells as the released guide's own fill.sh prints them over the translation 436ae6fad714c0b9… (all of the seat's roots in one cut). By AI agents, Wed Nov 11 2026. No macro, syntax, notation, axiom, sorry.
-/
import Derived.Test.YtogjkgoiofngaaaChecked
import GoSem.Claim
import GoSem.ClaimJoined
import GoSem.ClaimMapViews
import Derived.JoinedTies
import Derived.KernelRfl
namespace Go.Proofs.Ytogjkgoiofngaaa
/- THE CELL 'sum', in the pinned program and in every row, IS THE sha256 OF THE DUMP (.gsa) THAT YtogjkgoiofngaaaProg.lean LOADS. Nothing in Lean hashes anything: it is a label: what it is worth is what the hold of that sum in a sandbox is worth. -/
noncomputable def Try.pinned : Pinned := { name := "ytogjkgoiofngaaa", sum := "436ae6fad714c0b97723c1a99222db3084ca272bf6c3a4606f5036301f6b438b", checked := Try.checked }
namespace Rows
def none {H : Type} : Left H := { results := [], args := [] }

/-- 'userplanelaw23.MacpduBuilds': WHATEVER THE INPUT: true; the input reads as it did. -/
def macpduBuildsSpec : ChangeSpec := { name := "macpduBuilds", fn := fun _ => fun
  | [d1, d2] => { results := [.lit (.bool true)], args := [d1, d2] }
  | _ => none }
def macpduBuildsRow : OpenClaim := { program := "ytogjkgoiofngaaa", sum := "436ae6fad714c0b97723c1a99222db3084ca272bf6c3a4606f5036301f6b438b", func := "userplane/userplanelaw23.MacpduBuilds", spec := "macpduBuilds", unfollowed := true, recurses := true, apart := false }
def MacpduBuildsSaid : Prop := macpduBuildsRow.holds Try.pinned (OpenSpec.ofChange macpduBuildsSpec)

/-- ITS FALSE NEIGHBOUR: 'it returns false'. Refute it at one input. -/
def macpduBuildsWrong : ChangeSpec := { name := "macpduBuilds", fn := fun _ => fun
  | [d1, d2] => { results := [.lit (.bool false)], args := [d1, d2] }
  | _ => none }
def MacpduBuildsWrongFalsely : Prop := macpduBuildsRow.holds Try.pinned (OpenSpec.ofChange macpduBuildsWrong)

/-- 'userplanelaw23.MacpduFits': WHATEVER THE INPUT: true; the input reads as it did. -/
def macpduFitsSpec : ChangeSpec := { name := "macpduFits", fn := fun _ => fun
  | [d1, d2] => { results := [.lit (.bool true)], args := [d1, d2] }
  | _ => none }
def macpduFitsRow : OpenClaim := { program := "ytogjkgoiofngaaa", sum := "436ae6fad714c0b97723c1a99222db3084ca272bf6c3a4606f5036301f6b438b", func := "userplane/userplanelaw23.MacpduFits", spec := "macpduFits", unfollowed := true, recurses := true, apart := false }
def MacpduFitsSaid : Prop := macpduFitsRow.holds Try.pinned (OpenSpec.ofChange macpduFitsSpec)

/-- ITS FALSE NEIGHBOUR: 'it returns false'. Refute it at one input. -/
def macpduFitsWrong : ChangeSpec := { name := "macpduFits", fn := fun _ => fun
  | [d1, d2] => { results := [.lit (.bool false)], args := [d1, d2] }
  | _ => none }
def MacpduFitsWrongFalsely : Prop := macpduFitsRow.holds Try.pinned (OpenSpec.ofChange macpduFitsWrong)

/-- 'userplanelaw23.MacpduControls': WHATEVER THE INPUT: true; the input reads as it did. -/
def macpduControlsSpec : ChangeSpec := { name := "macpduControls", fn := fun _ => fun
  | [d] => { results := [.lit (.bool true)], args := [d] }
  | _ => none }
def macpduControlsRow : OpenClaim := { program := "ytogjkgoiofngaaa", sum := "436ae6fad714c0b97723c1a99222db3084ca272bf6c3a4606f5036301f6b438b", func := "userplane/userplanelaw23.MacpduControls", spec := "macpduControls", unfollowed := true, recurses := true, apart := false }
def MacpduControlsSaid : Prop := macpduControlsRow.holds Try.pinned (OpenSpec.ofChange macpduControlsSpec)

/-- ITS FALSE NEIGHBOUR: 'it returns false'. Refute it at one input. -/
def macpduControlsWrong : ChangeSpec := { name := "macpduControls", fn := fun _ => fun
  | [d] => { results := [.lit (.bool false)], args := [d] }
  | _ => none }
def MacpduControlsWrongFalsely : Prop := macpduControlsRow.holds Try.pinned (OpenSpec.ofChange macpduControlsWrong)

/-- 'userplanelaw23.MacpduBounds': WHATEVER THE INPUT: true; the input reads as it did. -/
def macpduBoundsSpec : ChangeSpec := { name := "macpduBounds", fn := fun _ => fun
  | [d1, d2] => { results := [.lit (.bool true)], args := [d1, d2] }
  | _ => none }
def macpduBoundsRow : OpenClaim := { program := "ytogjkgoiofngaaa", sum := "436ae6fad714c0b97723c1a99222db3084ca272bf6c3a4606f5036301f6b438b", func := "userplane/userplanelaw23.MacpduBounds", spec := "macpduBounds", unfollowed := true, recurses := true, apart := false }
def MacpduBoundsSaid : Prop := macpduBoundsRow.holds Try.pinned (OpenSpec.ofChange macpduBoundsSpec)

/-- ITS FALSE NEIGHBOUR: 'it returns false'. Refute it at one input. -/
def macpduBoundsWrong : ChangeSpec := { name := "macpduBounds", fn := fun _ => fun
  | [d1, d2] => { results := [.lit (.bool false)], args := [d1, d2] }
  | _ => none }
def MacpduBoundsWrongFalsely : Prop := macpduBoundsRow.holds Try.pinned (OpenSpec.ofChange macpduBoundsWrong)

/-- 'userplanelaw23.MacpduHolds': WHATEVER THE INPUT: true; the input reads as it did. -/
def macpduHoldsSpec : ChangeSpec := { name := "macpduHolds", fn := fun _ => fun
  | [d1, d2, d3] => { results := [.lit (.bool true)], args := [d1, d2, d3] }
  | _ => none }
def macpduHoldsRow : OpenClaim := { program := "ytogjkgoiofngaaa", sum := "436ae6fad714c0b97723c1a99222db3084ca272bf6c3a4606f5036301f6b438b", func := "userplane/userplanelaw23.MacpduHolds", spec := "macpduHolds", unfollowed := true, recurses := true, apart := false }
def MacpduHoldsSaid : Prop := macpduHoldsRow.holds Try.pinned (OpenSpec.ofChange macpduHoldsSpec)

/-- ITS FALSE NEIGHBOUR: 'it returns false'. Refute it at one input. -/
def macpduHoldsWrong : ChangeSpec := { name := "macpduHolds", fn := fun _ => fun
  | [d1, d2, d3] => { results := [.lit (.bool false)], args := [d1, d2, d3] }
  | _ => none }
def MacpduHoldsWrongFalsely : Prop := macpduHoldsRow.holds Try.pinned (OpenSpec.ofChange macpduHoldsWrong)

/-- 'userplanelaw23.MacpduEach': WHATEVER THE INPUT: true; the input reads as it did. -/
def macpduEachSpec : ChangeSpec := { name := "macpduEach", fn := fun _ => fun
  | [d1, d2] => { results := [.lit (.bool true)], args := [d1, d2] }
  | _ => none }
def macpduEachRow : OpenClaim := { program := "ytogjkgoiofngaaa", sum := "436ae6fad714c0b97723c1a99222db3084ca272bf6c3a4606f5036301f6b438b", func := "userplane/userplanelaw23.MacpduEach", spec := "macpduEach", unfollowed := true, recurses := true, apart := false }
def MacpduEachSaid : Prop := macpduEachRow.holds Try.pinned (OpenSpec.ofChange macpduEachSpec)

/-- ITS FALSE NEIGHBOUR: 'it returns false'. Refute it at one input. -/
def macpduEachWrong : ChangeSpec := { name := "macpduEach", fn := fun _ => fun
  | [d1, d2] => { results := [.lit (.bool false)], args := [d1, d2] }
  | _ => none }
def MacpduEachWrongFalsely : Prop := macpduEachRow.holds Try.pinned (OpenSpec.ofChange macpduEachWrong)

/- THE SECOND FORM. 'bulk': how many values and letters a reading holds, each counted each time it is reached (what is shared counts as often as it is met; a slice's spare places count too). A statement '..UptoSaid' is the law's where the arguments, and the package variables that the reading takes, are together of bulk at most 1048576: NARROWER than '..Said'. Prove '..Said' where nothing that the law and all that it calls make is longer than what came in: it says more and counts as full. Else prove '..UptoSaid'. A law counts once. -/
mutual
def uptoBulk {H : Type} : DataW H → Nat
  | .lit (.string bytes) => bytes.length + 1
  | .lit _ => 1
  | .nil => 1
  | .ptr d => uptoBulk d + 1
  | .slice elems spare => uptoBulkAll elems + uptoBulkAll spare + 1
  | .agg parts => uptoBulkAll parts + 1
  | .iface _ d => uptoBulk d + 1
  | .map entries => uptoBulkEntries entries + 1
  | .held _ => 1
def uptoBulkAll {H : Type} : List (DataW H) → Nat
  | [] => 0
  | d :: r => uptoBulk d + uptoBulkAll r
def uptoBulkEntries {H : Type} : List (Lit × DataW H) → Nat
  | [] => 0
  | x :: r => uptoBulkEntry x + uptoBulkEntries r
def uptoBulkEntry {H : Type} : Lit × DataW H → Nat
  | (.string bytes, d) => bytes.length + uptoBulk d + 1
  | (_, d) => uptoBulk d + 1
 end
def uptoSmall : (H : Type) → List (DataW H) → Bool := fun _ ds => decide (uptoBulkAll ds ≤ 1048576)
def OpenSpec.upto (s : _root_.Go.ChangeSpec) : _root_.Go.OpenSpec := { _root_.Go.OpenSpec.ofChange s with cond := some uptoSmall }

/-- 'userplanelaw23.MacpduBuilds', WHERE WHAT IT READS IS OF BULK AT MOST 1048576: true; the input reads as it did. -/
def macpduBuildsUptoRow : OpenClaim := { program := "ytogjkgoiofngaaa", sum := "436ae6fad714c0b97723c1a99222db3084ca272bf6c3a4606f5036301f6b438b", func := "userplane/userplanelaw23.MacpduBuilds", spec := "macpduBuilds", unfollowed := true, recurses := true, apart := false, narrowed := true }
def MacpduBuildsUptoSaid : Prop := macpduBuildsUptoRow.holds Try.pinned (OpenSpec.upto macpduBuildsSpec)

/-- 'userplanelaw23.MacpduFits', WHERE WHAT IT READS IS OF BULK AT MOST 1048576: true; the input reads as it did. -/
def macpduFitsUptoRow : OpenClaim := { program := "ytogjkgoiofngaaa", sum := "436ae6fad714c0b97723c1a99222db3084ca272bf6c3a4606f5036301f6b438b", func := "userplane/userplanelaw23.MacpduFits", spec := "macpduFits", unfollowed := true, recurses := true, apart := false, narrowed := true }
def MacpduFitsUptoSaid : Prop := macpduFitsUptoRow.holds Try.pinned (OpenSpec.upto macpduFitsSpec)

/-- 'userplanelaw23.MacpduControls', WHERE WHAT IT READS IS OF BULK AT MOST 1048576: true; the input reads as it did. -/
def macpduControlsUptoRow : OpenClaim := { program := "ytogjkgoiofngaaa", sum := "436ae6fad714c0b97723c1a99222db3084ca272bf6c3a4606f5036301f6b438b", func := "userplane/userplanelaw23.MacpduControls", spec := "macpduControls", unfollowed := true, recurses := true, apart := false, narrowed := true }
def MacpduControlsUptoSaid : Prop := macpduControlsUptoRow.holds Try.pinned (OpenSpec.upto macpduControlsSpec)

/-- 'userplanelaw23.MacpduBounds', WHERE WHAT IT READS IS OF BULK AT MOST 1048576: true; the input reads as it did. -/
def macpduBoundsUptoRow : OpenClaim := { program := "ytogjkgoiofngaaa", sum := "436ae6fad714c0b97723c1a99222db3084ca272bf6c3a4606f5036301f6b438b", func := "userplane/userplanelaw23.MacpduBounds", spec := "macpduBounds", unfollowed := true, recurses := true, apart := false, narrowed := true }
def MacpduBoundsUptoSaid : Prop := macpduBoundsUptoRow.holds Try.pinned (OpenSpec.upto macpduBoundsSpec)

/-- 'userplanelaw23.MacpduHolds', WHERE WHAT IT READS IS OF BULK AT MOST 1048576: true; the input reads as it did. -/
def macpduHoldsUptoRow : OpenClaim := { program := "ytogjkgoiofngaaa", sum := "436ae6fad714c0b97723c1a99222db3084ca272bf6c3a4606f5036301f6b438b", func := "userplane/userplanelaw23.MacpduHolds", spec := "macpduHolds", unfollowed := true, recurses := true, apart := false, narrowed := true }
def MacpduHoldsUptoSaid : Prop := macpduHoldsUptoRow.holds Try.pinned (OpenSpec.upto macpduHoldsSpec)

/-- 'userplanelaw23.MacpduEach', WHERE WHAT IT READS IS OF BULK AT MOST 1048576: true; the input reads as it did. -/
def macpduEachUptoRow : OpenClaim := { program := "ytogjkgoiofngaaa", sum := "436ae6fad714c0b97723c1a99222db3084ca272bf6c3a4606f5036301f6b438b", func := "userplane/userplanelaw23.MacpduEach", spec := "macpduEach", unfollowed := true, recurses := true, apart := false, narrowed := true }
def MacpduEachUptoSaid : Prop := macpduEachUptoRow.holds Try.pinned (OpenSpec.upto macpduEachSpec)

end Rows
end Go.Proofs.Ytogjkgoiofngaaa
