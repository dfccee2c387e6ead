/-
  No cell of these rows narrows 'for every input' (looked for: loops, veiled, ifaces, maps, wideKeys, modest, calm, conditions, laid).
  DERIVED. THE GIVEN ROWS OF THIS SEAT. 7 by the template 'for every input the law returns true; each argument reads behind the call as it read before'; 0 by the template 'total and deterministic' (their statements: YthncbdoiilgnhaaTotals.lean).
  GIVEN WITH THE SEED: the statements are not yours to turn. If you find one false, say at which input.
  Laid BY PROGRAM, IN A SANDBOX (cutbox-rows.mjs): the forced cells as the released guide's own fill.sh prints them over the translation 28896f12e2a937c0… (all of the seat's roots in one cut). By AI agents, Wed Nov 11 2026. No macro, syntax, notation, axiom, sorry.
-/
import Derived.Test.YthncbdoiilgnhaaChecked
import GoSem.Claim
import GoSem.ClaimJoined
import GoSem.ClaimMapViews
import Derived.JoinedTies
import Derived.KernelRfl
namespace Go.Proofs.Ythncbdoiilgnhaa
/- THE CELL 'sum', in the pinned program and in every row, IS THE sha256 OF THE DUMP (.gsa) THAT YthncbdoiilgnhaaProg.lean LOADS. Nothing in Lean hashes anything: it is a label: what it is worth is what the hold of that sum in a sandbox is worth. -/
noncomputable def Try.pinned : Pinned := { name := "ythncbdoiilgnhaa", sum := "28896f12e2a937c0b4beb8141cdc0f10d30cbc03b0af607d4585cb10f2a1a0e4", checked := Try.checked }
namespace Rows
def none {H : Type} : Left H := { results := [], args := [] }

/-- 'userplanelaw16.QamPoints': WHATEVER THE INPUT: true; the input reads as it did. -/
def qamPointsSpec : ChangeSpec := { name := "qamPoints", fn := fun _ => fun
  | [d1, d2] => { results := [.lit (.bool true)], args := [d1, d2] }
  | _ => none }
def qamPointsRow : OpenClaim := { program := "ythncbdoiilgnhaa", sum := "28896f12e2a937c0b4beb8141cdc0f10d30cbc03b0af607d4585cb10f2a1a0e4", func := "userplane/userplanelaw16.QamPoints", spec := "qamPoints", unfollowed := true, recurses := true, apart := false }
def QamPointsSaid : Prop := qamPointsRow.holds Try.pinned (OpenSpec.ofChange qamPointsSpec)

/-- ITS FALSE NEIGHBOUR: 'it returns false'. Refute it at one input. -/
def qamPointsWrong : ChangeSpec := { name := "qamPoints", fn := fun _ => fun
  | [d1, d2] => { results := [.lit (.bool false)], args := [d1, d2] }
  | _ => none }
def QamPointsWrongFalsely : Prop := qamPointsRow.holds Try.pinned (OpenSpec.ofChange qamPointsWrong)

/-- 'userplanelaw16.QamGray': WHATEVER THE INPUT: true; the input reads as it did. -/
def qamGraySpec : ChangeSpec := { name := "qamGray", fn := fun _ => fun
  | [d1, d2, d3] => { results := [.lit (.bool true)], args := [d1, d2, d3] }
  | _ => none }
def qamGrayRow : OpenClaim := { program := "ythncbdoiilgnhaa", sum := "28896f12e2a937c0b4beb8141cdc0f10d30cbc03b0af607d4585cb10f2a1a0e4", func := "userplane/userplanelaw16.QamGray", spec := "qamGray", unfollowed := true, recurses := true, apart := false }
def QamGraySaid : Prop := qamGrayRow.holds Try.pinned (OpenSpec.ofChange qamGraySpec)

/-- ITS FALSE NEIGHBOUR: 'it returns false'. Refute it at one input. -/
def qamGrayWrong : ChangeSpec := { name := "qamGray", fn := fun _ => fun
  | [d1, d2, d3] => { results := [.lit (.bool false)], args := [d1, d2, d3] }
  | _ => none }
def QamGrayWrongFalsely : Prop := qamGrayRow.holds Try.pinned (OpenSpec.ofChange qamGrayWrong)

/-- 'userplanelaw16.QamMirrors': WHATEVER THE INPUT: true; the input reads as it did. -/
def qamMirrorsSpec : ChangeSpec := { name := "qamMirrors", fn := fun _ => fun
  | [d1, d2, d3] => { results := [.lit (.bool true)], args := [d1, d2, d3] }
  | _ => none }
def qamMirrorsRow : OpenClaim := { program := "ythncbdoiilgnhaa", sum := "28896f12e2a937c0b4beb8141cdc0f10d30cbc03b0af607d4585cb10f2a1a0e4", func := "userplane/userplanelaw16.QamMirrors", spec := "qamMirrors", unfollowed := true, recurses := true, apart := false }
def QamMirrorsSaid : Prop := qamMirrorsRow.holds Try.pinned (OpenSpec.ofChange qamMirrorsSpec)

/-- ITS FALSE NEIGHBOUR: 'it returns false'. Refute it at one input. -/
def qamMirrorsWrong : ChangeSpec := { name := "qamMirrors", fn := fun _ => fun
  | [d1, d2, d3] => { results := [.lit (.bool false)], args := [d1, d2, d3] }
  | _ => none }
def QamMirrorsWrongFalsely : Prop := qamMirrorsRow.holds Try.pinned (OpenSpec.ofChange qamMirrorsWrong)

/-- 'userplanelaw16.QamSofts': WHATEVER THE INPUT: true; the input reads as it did. -/
def qamSoftsSpec : ChangeSpec := { name := "qamSofts", fn := fun _ => fun
  | [d1, d2] => { results := [.lit (.bool true)], args := [d1, d2] }
  | _ => none }
def qamSoftsRow : OpenClaim := { program := "ythncbdoiilgnhaa", sum := "28896f12e2a937c0b4beb8141cdc0f10d30cbc03b0af607d4585cb10f2a1a0e4", func := "userplane/userplanelaw16.QamSofts", spec := "qamSofts", unfollowed := true, recurses := true, apart := false }
def QamSoftsSaid : Prop := qamSoftsRow.holds Try.pinned (OpenSpec.ofChange qamSoftsSpec)

/-- ITS FALSE NEIGHBOUR: 'it returns false'. Refute it at one input. -/
def qamSoftsWrong : ChangeSpec := { name := "qamSofts", fn := fun _ => fun
  | [d1, d2] => { results := [.lit (.bool false)], args := [d1, d2] }
  | _ => none }
def QamSoftsWrongFalsely : Prop := qamSoftsRow.holds Try.pinned (OpenSpec.ofChange qamSoftsWrong)

/-- 'userplanelaw16.QamBack': WHATEVER THE INPUT: true; the input reads as it did. -/
def qamBackSpec : ChangeSpec := { name := "qamBack", fn := fun _ => fun
  | [d1, d2, d3] => { results := [.lit (.bool true)], args := [d1, d2, d3] }
  | _ => none }
def qamBackRow : OpenClaim := { program := "ythncbdoiilgnhaa", sum := "28896f12e2a937c0b4beb8141cdc0f10d30cbc03b0af607d4585cb10f2a1a0e4", func := "userplane/userplanelaw16.QamBack", spec := "qamBack", unfollowed := true, recurses := true, apart := false }
def QamBackSaid : Prop := qamBackRow.holds Try.pinned (OpenSpec.ofChange qamBackSpec)

/-- ITS FALSE NEIGHBOUR: 'it returns false'. Refute it at one input. -/
def qamBackWrong : ChangeSpec := { name := "qamBack", fn := fun _ => fun
  | [d1, d2, d3] => { results := [.lit (.bool false)], args := [d1, d2, d3] }
  | _ => none }
def QamBackWrongFalsely : Prop := qamBackRow.holds Try.pinned (OpenSpec.ofChange qamBackWrong)

/-- 'userplanelaw16.QamLevels': WHATEVER THE INPUT: true; the input reads as it did. -/
def qamLevelsSpec : ChangeSpec := { name := "qamLevels", fn := fun _ => fun
  | [d] => { results := [.lit (.bool true)], args := [d] }
  | _ => none }
def qamLevelsRow : OpenClaim := { program := "ythncbdoiilgnhaa", sum := "28896f12e2a937c0b4beb8141cdc0f10d30cbc03b0af607d4585cb10f2a1a0e4", func := "userplane/userplanelaw16.QamLevels", spec := "qamLevels", unfollowed := true, recurses := true, apart := false }
def QamLevelsSaid : Prop := qamLevelsRow.holds Try.pinned (OpenSpec.ofChange qamLevelsSpec)

/-- ITS FALSE NEIGHBOUR: 'it returns false'. Refute it at one input. -/
def qamLevelsWrong : ChangeSpec := { name := "qamLevels", fn := fun _ => fun
  | [d] => { results := [.lit (.bool false)], args := [d] }
  | _ => none }
def QamLevelsWrongFalsely : Prop := qamLevelsRow.holds Try.pinned (OpenSpec.ofChange qamLevelsWrong)

/-- 'userplanelaw16.QamOwn': WHATEVER THE INPUT: true; the input reads as it did. -/
def qamOwnSpec : ChangeSpec := { name := "qamOwn", fn := fun _ => fun
  | [d1, d2] => { results := [.lit (.bool true)], args := [d1, d2] }
  | _ => none }
def qamOwnRow : OpenClaim := { program := "ythncbdoiilgnhaa", sum := "28896f12e2a937c0b4beb8141cdc0f10d30cbc03b0af607d4585cb10f2a1a0e4", func := "userplane/userplanelaw16.QamOwn", spec := "qamOwn", unfollowed := true, recurses := true, apart := false }
def QamOwnSaid : Prop := qamOwnRow.holds Try.pinned (OpenSpec.ofChange qamOwnSpec)

/-- ITS FALSE NEIGHBOUR: 'it returns false'. Refute it at one input. -/
def qamOwnWrong : ChangeSpec := { name := "qamOwn", fn := fun _ => fun
  | [d1, d2] => { results := [.lit (.bool false)], args := [d1, d2] }
  | _ => none }
def QamOwnWrongFalsely : Prop := qamOwnRow.holds Try.pinned (OpenSpec.ofChange qamOwnWrong)

/- THE SECOND FORM. 'bulk': how many values and letters a reading holds, each counted each time it is reached (what is shared counts as often as it is met; a slice's spare places count too). A statement '..UptoSaid' is the law's where the arguments, and the package variables that the reading takes, are together of bulk at most 1048576: NARROWER than '..Said'. Prove '..Said' where nothing that the law and all that it calls make is longer than what came in: it says more and counts as full. Else prove '..UptoSaid'. A law counts once. -/
mutual
def uptoBulk {H : Type} : DataW H → Nat
  | .lit (.string bytes) => bytes.length + 1
  | .lit _ => 1
  | .nil => 1
  | .ptr d => uptoBulk d + 1
  | .slice elems spare => uptoBulkAll elems + uptoBulkAll spare + 1
  | .agg parts => uptoBulkAll parts + 1
  | .iface _ d => uptoBulk d + 1
  | .map entries => uptoBulkEntries entries + 1
  | .held _ => 1
def uptoBulkAll {H : Type} : List (DataW H) → Nat
  | [] => 0
  | d :: r => uptoBulk d + uptoBulkAll r
def uptoBulkEntries {H : Type} : List (Lit × DataW H) → Nat
  | [] => 0
  | x :: r => uptoBulkEntry x + uptoBulkEntries r
def uptoBulkEntry {H : Type} : Lit × DataW H → Nat
  | (.string bytes, d) => bytes.length + uptoBulk d + 1
  | (_, d) => uptoBulk d + 1
 end
def uptoSmall : (H : Type) → List (DataW H) → Bool := fun _ ds => decide (uptoBulkAll ds ≤ 1048576)
def OpenSpec.upto (s : _root_.Go.ChangeSpec) : _root_.Go.OpenSpec := { _root_.Go.OpenSpec.ofChange s with cond := some uptoSmall }

/-- 'userplanelaw16.QamPoints', WHERE WHAT IT READS IS OF BULK AT MOST 1048576: true; the input reads as it did. -/
def qamPointsUptoRow : OpenClaim := { program := "ythncbdoiilgnhaa", sum := "28896f12e2a937c0b4beb8141cdc0f10d30cbc03b0af607d4585cb10f2a1a0e4", func := "userplane/userplanelaw16.QamPoints", spec := "qamPoints", unfollowed := true, recurses := true, apart := false, narrowed := true }
def QamPointsUptoSaid : Prop := qamPointsUptoRow.holds Try.pinned (OpenSpec.upto qamPointsSpec)

/-- 'userplanelaw16.QamGray', WHERE WHAT IT READS IS OF BULK AT MOST 1048576: true; the input reads as it did. -/
def qamGrayUptoRow : OpenClaim := { program := "ythncbdoiilgnhaa", sum := "28896f12e2a937c0b4beb8141cdc0f10d30cbc03b0af607d4585cb10f2a1a0e4", func := "userplane/userplanelaw16.QamGray", spec := "qamGray", unfollowed := true, recurses := true, apart := false, narrowed := true }
def QamGrayUptoSaid : Prop := qamGrayUptoRow.holds Try.pinned (OpenSpec.upto qamGraySpec)

/-- 'userplanelaw16.QamMirrors', WHERE WHAT IT READS IS OF BULK AT MOST 1048576: true; the input reads as it did. -/
def qamMirrorsUptoRow : OpenClaim := { program := "ythncbdoiilgnhaa", sum := "28896f12e2a937c0b4beb8141cdc0f10d30cbc03b0af607d4585cb10f2a1a0e4", func := "userplane/userplanelaw16.QamMirrors", spec := "qamMirrors", unfollowed := true, recurses := true, apart := false, narrowed := true }
def QamMirrorsUptoSaid : Prop := qamMirrorsUptoRow.holds Try.pinned (OpenSpec.upto qamMirrorsSpec)

/-- 'userplanelaw16.QamSofts', WHERE WHAT IT READS IS OF BULK AT MOST 1048576: true; the input reads as it did. -/
def qamSoftsUptoRow : OpenClaim := { program := "ythncbdoiilgnhaa", sum := "28896f12e2a937c0b4beb8141cdc0f10d30cbc03b0af607d4585cb10f2a1a0e4", func := "userplane/userplanelaw16.QamSofts", spec := "qamSofts", unfollowed := true, recurses := true, apart := false, narrowed := true }
def QamSoftsUptoSaid : Prop := qamSoftsUptoRow.holds Try.pinned (OpenSpec.upto qamSoftsSpec)

/-- 'userplanelaw16.QamBack', WHERE WHAT IT READS IS OF BULK AT MOST 1048576: true; the input reads as it did. -/
def qamBackUptoRow : OpenClaim := { program := "ythncbdoiilgnhaa", sum := "28896f12e2a937c0b4beb8141cdc0f10d30cbc03b0af607d4585cb10f2a1a0e4", func := "userplane/userplanelaw16.QamBack", spec := "qamBack", unfollowed := true, recurses := true, apart := false, narrowed := true }
def QamBackUptoSaid : Prop := qamBackUptoRow.holds Try.pinned (OpenSpec.upto qamBackSpec)

/-- 'userplanelaw16.QamLevels', WHERE WHAT IT READS IS OF BULK AT MOST 1048576: true; the input reads as it did. -/
def qamLevelsUptoRow : OpenClaim := { program := "ythncbdoiilgnhaa", sum := "28896f12e2a937c0b4beb8141cdc0f10d30cbc03b0af607d4585cb10f2a1a0e4", func := "userplane/userplanelaw16.QamLevels", spec := "qamLevels", unfollowed := true, recurses := true, apart := false, narrowed := true }
def QamLevelsUptoSaid : Prop := qamLevelsUptoRow.holds Try.pinned (OpenSpec.upto qamLevelsSpec)

/-- 'userplanelaw16.QamOwn', WHERE WHAT IT READS IS OF BULK AT MOST 1048576: true; the input reads as it did. -/
def qamOwnUptoRow : OpenClaim := { program := "ythncbdoiilgnhaa", sum := "28896f12e2a937c0b4beb8141cdc0f10d30cbc03b0af607d4585cb10f2a1a0e4", func := "userplane/userplanelaw16.QamOwn", spec := "qamOwn", unfollowed := true, recurses := true, apart := false, narrowed := true }
def QamOwnUptoSaid : Prop := qamOwnUptoRow.holds Try.pinned (OpenSpec.upto qamOwnSpec)

end Rows
end Go.Proofs.Ythncbdoiilgnhaa
