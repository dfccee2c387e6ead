/-
  No cell of these rows narrows 'for every input' (looked for: loops, veiled, ifaces, maps, wideKeys, modest, calm, conditions, laid).
  DERIVED. THE GIVEN ROWS OF THIS SEAT. 6 by the template 'for every input the law returns true; each argument reads behind the call as it read before'; 0 by the template 'total and deterministic' (their statements: YtcieclifabbkjaaTotals.lean).
  GIVEN WITH THE SEED: the statements are not yours to turn. If you find one false, say at which input.
  Laid BY PROGRAM, IN A SANDBOX (cutbox-rows.mjs): the forced cells as the released guide's own fill.sh prints them over the translation 82a0f529781ca62a… (all of the seat's roots in one cut). By AI agents, Wed Nov 11 2026. No macro, syntax, notation, axiom, sorry.
-/
import Derived.Test.YtcieclifabbkjaaChecked
import GoSem.Claim
import GoSem.ClaimJoined
import GoSem.ClaimMapViews
import Derived.JoinedTies
import Derived.KernelRfl
namespace Go.Proofs.Ytcieclifabbkjaa
/- THE CELL 'sum', in the pinned program and in every row, IS THE sha256 OF THE DUMP (.gsa) THAT YtcieclifabbkjaaProg.lean LOADS. Nothing in Lean hashes anything: it is a label: what it is worth is what the hold of that sum in a sandbox is worth. -/
noncomputable def Try.pinned : Pinned := { name := "ytcieclifabbkjaa", sum := "82a0f529781ca62a2f2730ad55f9c015ec30c6fa9e2c6ea1837b6a2550944cd6", checked := Try.checked }
namespace Rows
def none {H : Type} : Left H := { results := [], args := [] }

/-- 'userplanelaw34.StatusEncodes': WHATEVER THE INPUT: true; the input reads as it did. -/
def statusEncodesSpec : ChangeSpec := { name := "statusEncodes", fn := fun _ => fun
  | [d] => { results := [.lit (.bool true)], args := [d] }
  | _ => none }
def statusEncodesRow : OpenClaim := { program := "ytcieclifabbkjaa", sum := "82a0f529781ca62a2f2730ad55f9c015ec30c6fa9e2c6ea1837b6a2550944cd6", func := "userplane/userplanelaw34.StatusEncodes", spec := "statusEncodes", unfollowed := true, recurses := true, apart := false }
def StatusEncodesSaid : Prop := statusEncodesRow.holds Try.pinned (OpenSpec.ofChange statusEncodesSpec)

/-- ITS FALSE NEIGHBOUR: 'it returns false'. Refute it at one input. -/
def statusEncodesWrong : ChangeSpec := { name := "statusEncodes", fn := fun _ => fun
  | [d] => { results := [.lit (.bool false)], args := [d] }
  | _ => none }
def StatusEncodesWrongFalsely : Prop := statusEncodesRow.holds Try.pinned (OpenSpec.ofChange statusEncodesWrong)

/-- 'userplanelaw34.StatusDecodes': WHATEVER THE INPUT: true; the input reads as it did. -/
def statusDecodesSpec : ChangeSpec := { name := "statusDecodes", fn := fun _ => fun
  | [d] => { results := [.lit (.bool true)], args := [d] }
  | _ => none }
def statusDecodesRow : OpenClaim := { program := "ytcieclifabbkjaa", sum := "82a0f529781ca62a2f2730ad55f9c015ec30c6fa9e2c6ea1837b6a2550944cd6", func := "userplane/userplanelaw34.StatusDecodes", spec := "statusDecodes", unfollowed := true, recurses := true, apart := false }
def StatusDecodesSaid : Prop := statusDecodesRow.holds Try.pinned (OpenSpec.ofChange statusDecodesSpec)

/-- ITS FALSE NEIGHBOUR: 'it returns false'. Refute it at one input. -/
def statusDecodesWrong : ChangeSpec := { name := "statusDecodes", fn := fun _ => fun
  | [d] => { results := [.lit (.bool false)], args := [d] }
  | _ => none }
def StatusDecodesWrongFalsely : Prop := statusDecodesRow.holds Try.pinned (OpenSpec.ofChange statusDecodesWrong)

/-- 'userplanelaw34.StatusFits': WHATEVER THE INPUT: true; the input reads as it did. -/
def statusFitsSpec : ChangeSpec := { name := "statusFits", fn := fun _ => fun
  | [d1, d2] => { results := [.lit (.bool true)], args := [d1, d2] }
  | _ => none }
def statusFitsRow : OpenClaim := { program := "ytcieclifabbkjaa", sum := "82a0f529781ca62a2f2730ad55f9c015ec30c6fa9e2c6ea1837b6a2550944cd6", func := "userplane/userplanelaw34.StatusFits", spec := "statusFits", unfollowed := true, recurses := true, apart := false }
def StatusFitsSaid : Prop := statusFitsRow.holds Try.pinned (OpenSpec.ofChange statusFitsSpec)

/-- ITS FALSE NEIGHBOUR: 'it returns false'. Refute it at one input. -/
def statusFitsWrong : ChangeSpec := { name := "statusFits", fn := fun _ => fun
  | [d1, d2] => { results := [.lit (.bool false)], args := [d1, d2] }
  | _ => none }
def StatusFitsWrongFalsely : Prop := statusFitsRow.holds Try.pinned (OpenSpec.ofChange statusFitsWrong)

/-- 'userplanelaw34.StatusHolds': WHATEVER THE INPUT: true; the input reads as it did. -/
def statusHoldsSpec : ChangeSpec := { name := "statusHolds", fn := fun _ => fun
  | [d1, d2] => { results := [.lit (.bool true)], args := [d1, d2] }
  | _ => none }
def statusHoldsRow : OpenClaim := { program := "ytcieclifabbkjaa", sum := "82a0f529781ca62a2f2730ad55f9c015ec30c6fa9e2c6ea1837b6a2550944cd6", func := "userplane/userplanelaw34.StatusHolds", spec := "statusHolds", unfollowed := true, recurses := true, apart := false }
def StatusHoldsSaid : Prop := statusHoldsRow.holds Try.pinned (OpenSpec.ofChange statusHoldsSpec)

/-- ITS FALSE NEIGHBOUR: 'it returns false'. Refute it at one input. -/
def statusHoldsWrong : ChangeSpec := { name := "statusHolds", fn := fun _ => fun
  | [d1, d2] => { results := [.lit (.bool false)], args := [d1, d2] }
  | _ => none }
def StatusHoldsWrongFalsely : Prop := statusHoldsRow.holds Try.pinned (OpenSpec.ofChange statusHoldsWrong)

/-- 'userplanelaw34.StatusSafe': WHATEVER THE INPUT: true; the input reads as it did. -/
def statusSafeSpec : ChangeSpec := { name := "statusSafe", fn := fun _ => fun
  | [d1, d2, d3, d4] => { results := [.lit (.bool true)], args := [d1, d2, d3, d4] }
  | _ => none }
def statusSafeRow : OpenClaim := { program := "ytcieclifabbkjaa", sum := "82a0f529781ca62a2f2730ad55f9c015ec30c6fa9e2c6ea1837b6a2550944cd6", func := "userplane/userplanelaw34.StatusSafe", spec := "statusSafe", unfollowed := true, recurses := true, apart := false }
def StatusSafeSaid : Prop := statusSafeRow.holds Try.pinned (OpenSpec.ofChange statusSafeSpec)

/-- ITS FALSE NEIGHBOUR: 'it returns false'. Refute it at one input. -/
def statusSafeWrong : ChangeSpec := { name := "statusSafe", fn := fun _ => fun
  | [d1, d2, d3, d4] => { results := [.lit (.bool false)], args := [d1, d2, d3, d4] }
  | _ => none }
def StatusSafeWrongFalsely : Prop := statusSafeRow.holds Try.pinned (OpenSpec.ofChange statusSafeWrong)

/-- 'userplanelaw34.StatusRanges': WHATEVER THE INPUT: true; the input reads as it did. -/
def statusRangesSpec : ChangeSpec := { name := "statusRanges", fn := fun _ => fun
  | [d1, d2, d3, d4] => { results := [.lit (.bool true)], args := [d1, d2, d3, d4] }
  | _ => none }
def statusRangesRow : OpenClaim := { program := "ytcieclifabbkjaa", sum := "82a0f529781ca62a2f2730ad55f9c015ec30c6fa9e2c6ea1837b6a2550944cd6", func := "userplane/userplanelaw34.StatusRanges", spec := "statusRanges", unfollowed := true, recurses := true, apart := false }
def StatusRangesSaid : Prop := statusRangesRow.holds Try.pinned (OpenSpec.ofChange statusRangesSpec)

/-- ITS FALSE NEIGHBOUR: 'it returns false'. Refute it at one input. -/
def statusRangesWrong : ChangeSpec := { name := "statusRanges", fn := fun _ => fun
  | [d1, d2, d3, d4] => { results := [.lit (.bool false)], args := [d1, d2, d3, d4] }
  | _ => none }
def StatusRangesWrongFalsely : Prop := statusRangesRow.holds Try.pinned (OpenSpec.ofChange statusRangesWrong)

/- THE SECOND FORM. 'bulk': how many values and letters a reading holds, each counted each time it is reached (what is shared counts as often as it is met; a slice's spare places count too). A statement '..UptoSaid' is the law's where the arguments, and the package variables that the reading takes, are together of bulk at most 1048576: NARROWER than '..Said'. Prove '..Said' where nothing that the law and all that it calls make is longer than what came in: it says more and counts as full. Else prove '..UptoSaid'. A law counts once. -/
mutual
def uptoBulk {H : Type} : DataW H → Nat
  | .lit (.string bytes) => bytes.length + 1
  | .lit _ => 1
  | .nil => 1
  | .ptr d => uptoBulk d + 1
  | .slice elems spare => uptoBulkAll elems + uptoBulkAll spare + 1
  | .agg parts => uptoBulkAll parts + 1
  | .iface _ d => uptoBulk d + 1
  | .map entries => uptoBulkEntries entries + 1
  | .held _ => 1
def uptoBulkAll {H : Type} : List (DataW H) → Nat
  | [] => 0
  | d :: r => uptoBulk d + uptoBulkAll r
def uptoBulkEntries {H : Type} : List (Lit × DataW H) → Nat
  | [] => 0
  | x :: r => uptoBulkEntry x + uptoBulkEntries r
def uptoBulkEntry {H : Type} : Lit × DataW H → Nat
  | (.string bytes, d) => bytes.length + uptoBulk d + 1
  | (_, d) => uptoBulk d + 1
 end
def uptoSmall : (H : Type) → List (DataW H) → Bool := fun _ ds => decide (uptoBulkAll ds ≤ 1048576)
def OpenSpec.upto (s : _root_.Go.ChangeSpec) : _root_.Go.OpenSpec := { _root_.Go.OpenSpec.ofChange s with cond := some uptoSmall }

/-- 'userplanelaw34.StatusEncodes', WHERE WHAT IT READS IS OF BULK AT MOST 1048576: true; the input reads as it did. -/
def statusEncodesUptoRow : OpenClaim := { program := "ytcieclifabbkjaa", sum := "82a0f529781ca62a2f2730ad55f9c015ec30c6fa9e2c6ea1837b6a2550944cd6", func := "userplane/userplanelaw34.StatusEncodes", spec := "statusEncodes", unfollowed := true, recurses := true, apart := false, narrowed := true }
def StatusEncodesUptoSaid : Prop := statusEncodesUptoRow.holds Try.pinned (OpenSpec.upto statusEncodesSpec)

/-- 'userplanelaw34.StatusDecodes', WHERE WHAT IT READS IS OF BULK AT MOST 1048576: true; the input reads as it did. -/
def statusDecodesUptoRow : OpenClaim := { program := "ytcieclifabbkjaa", sum := "82a0f529781ca62a2f2730ad55f9c015ec30c6fa9e2c6ea1837b6a2550944cd6", func := "userplane/userplanelaw34.StatusDecodes", spec := "statusDecodes", unfollowed := true, recurses := true, apart := false, narrowed := true }
def StatusDecodesUptoSaid : Prop := statusDecodesUptoRow.holds Try.pinned (OpenSpec.upto statusDecodesSpec)

/-- 'userplanelaw34.StatusFits', WHERE WHAT IT READS IS OF BULK AT MOST 1048576: true; the input reads as it did. -/
def statusFitsUptoRow : OpenClaim := { program := "ytcieclifabbkjaa", sum := "82a0f529781ca62a2f2730ad55f9c015ec30c6fa9e2c6ea1837b6a2550944cd6", func := "userplane/userplanelaw34.StatusFits", spec := "statusFits", unfollowed := true, recurses := true, apart := false, narrowed := true }
def StatusFitsUptoSaid : Prop := statusFitsUptoRow.holds Try.pinned (OpenSpec.upto statusFitsSpec)

/-- 'userplanelaw34.StatusHolds', WHERE WHAT IT READS IS OF BULK AT MOST 1048576: true; the input reads as it did. -/
def statusHoldsUptoRow : OpenClaim := { program := "ytcieclifabbkjaa", sum := "82a0f529781ca62a2f2730ad55f9c015ec30c6fa9e2c6ea1837b6a2550944cd6", func := "userplane/userplanelaw34.StatusHolds", spec := "statusHolds", unfollowed := true, recurses := true, apart := false, narrowed := true }
def StatusHoldsUptoSaid : Prop := statusHoldsUptoRow.holds Try.pinned (OpenSpec.upto statusHoldsSpec)

/-- 'userplanelaw34.StatusSafe', WHERE WHAT IT READS IS OF BULK AT MOST 1048576: true; the input reads as it did. -/
def statusSafeUptoRow : OpenClaim := { program := "ytcieclifabbkjaa", sum := "82a0f529781ca62a2f2730ad55f9c015ec30c6fa9e2c6ea1837b6a2550944cd6", func := "userplane/userplanelaw34.StatusSafe", spec := "statusSafe", unfollowed := true, recurses := true, apart := false, narrowed := true }
def StatusSafeUptoSaid : Prop := statusSafeUptoRow.holds Try.pinned (OpenSpec.upto statusSafeSpec)

/-- 'userplanelaw34.StatusRanges', WHERE WHAT IT READS IS OF BULK AT MOST 1048576: true; the input reads as it did. -/
def statusRangesUptoRow : OpenClaim := { program := "ytcieclifabbkjaa", sum := "82a0f529781ca62a2f2730ad55f9c015ec30c6fa9e2c6ea1837b6a2550944cd6", func := "userplane/userplanelaw34.StatusRanges", spec := "statusRanges", unfollowed := true, recurses := true, apart := false, narrowed := true }
def StatusRangesUptoSaid : Prop := statusRangesUptoRow.holds Try.pinned (OpenSpec.upto statusRangesSpec)

end Rows
end Go.Proofs.Ytcieclifabbkjaa
