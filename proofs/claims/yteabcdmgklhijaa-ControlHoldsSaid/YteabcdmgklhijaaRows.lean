/-
  No cell of these rows narrows 'for every input' (looked for: loops, veiled, ifaces, maps, wideKeys, modest, calm, conditions, laid).
  DERIVED. THE GIVEN ROWS OF THIS SEAT. 6 by the template 'for every input the law returns true; each argument reads behind the call as it read before'; 0 by the template 'total and deterministic' (their statements: YteabcdmgklhijaaTotals.lean).
  GIVEN WITH THE SEED: the statements are not yours to turn. If you find one false, say at which input.
  Laid BY PROGRAM, IN A SANDBOX (cutbox-rows.mjs): the forced cells as the released guide's own fill.sh prints them over the translation 6400e47353f61430… (all of the seat's roots in one cut). By AI agents, Wed Nov 11 2026. No macro, syntax, notation, axiom, sorry.
-/
import Derived.Test.YteabcdmgklhijaaChecked
import GoSem.Claim
import GoSem.ClaimJoined
import GoSem.ClaimMapViews
import Derived.JoinedTies
import Derived.KernelRfl
namespace Go.Proofs.Yteabcdmgklhijaa
/- THE CELL 'sum', in the pinned program and in every row, IS THE sha256 OF THE DUMP (.gsa) THAT YteabcdmgklhijaaProg.lean LOADS. Nothing in Lean hashes anything: it is a label: what it is worth is what the hold of that sum in a sandbox is worth. -/
noncomputable def Try.pinned : Pinned := { name := "yteabcdmgklhijaa", sum := "6400e47353f614309aee1a86d58d8e05f062bc11d498ada1ce0d538da238c637", checked := Try.checked }
namespace Rows
def none {H : Type} : Left H := { results := [], args := [] }

/-- 'userplanelaw24.ControlLevels': WHATEVER THE INPUT: true; the input reads as it did. -/
def controlLevelsSpec : ChangeSpec := { name := "controlLevels", fn := fun _ => fun
  | [d1, d2] => { results := [.lit (.bool true)], args := [d1, d2] }
  | _ => none }
def controlLevelsRow : OpenClaim := { program := "yteabcdmgklhijaa", sum := "6400e47353f614309aee1a86d58d8e05f062bc11d498ada1ce0d538da238c637", func := "userplane/userplanelaw24.ControlLevels", spec := "controlLevels", unfollowed := true, recurses := true, apart := false }
def ControlLevelsSaid : Prop := controlLevelsRow.holds Try.pinned (OpenSpec.ofChange controlLevelsSpec)

/-- ITS FALSE NEIGHBOUR: 'it returns false'. Refute it at one input. -/
def controlLevelsWrong : ChangeSpec := { name := "controlLevels", fn := fun _ => fun
  | [d1, d2] => { results := [.lit (.bool false)], args := [d1, d2] }
  | _ => none }
def ControlLevelsWrongFalsely : Prop := controlLevelsRow.holds Try.pinned (OpenSpec.ofChange controlLevelsWrong)

/-- 'userplanelaw24.ControlReports': WHATEVER THE INPUT: true; the input reads as it did. -/
def controlReportsSpec : ChangeSpec := { name := "controlReports", fn := fun _ => fun
  | [d] => { results := [.lit (.bool true)], args := [d] }
  | _ => none }
def controlReportsRow : OpenClaim := { program := "yteabcdmgklhijaa", sum := "6400e47353f614309aee1a86d58d8e05f062bc11d498ada1ce0d538da238c637", func := "userplane/userplanelaw24.ControlReports", spec := "controlReports", unfollowed := true, recurses := true, apart := false }
def ControlReportsSaid : Prop := controlReportsRow.holds Try.pinned (OpenSpec.ofChange controlReportsSpec)

/-- ITS FALSE NEIGHBOUR: 'it returns false'. Refute it at one input. -/
def controlReportsWrong : ChangeSpec := { name := "controlReports", fn := fun _ => fun
  | [d] => { results := [.lit (.bool false)], args := [d] }
  | _ => none }
def ControlReportsWrongFalsely : Prop := controlReportsRow.holds Try.pinned (OpenSpec.ofChange controlReportsWrong)

/-- 'userplanelaw24.ControlIdentities': WHATEVER THE INPUT: true; the input reads as it did. -/
def controlIdentitiesSpec : ChangeSpec := { name := "controlIdentities", fn := fun _ => fun
  | [d1, d2, d3] => { results := [.lit (.bool true)], args := [d1, d2, d3] }
  | _ => none }
def controlIdentitiesRow : OpenClaim := { program := "yteabcdmgklhijaa", sum := "6400e47353f614309aee1a86d58d8e05f062bc11d498ada1ce0d538da238c637", func := "userplane/userplanelaw24.ControlIdentities", spec := "controlIdentities", unfollowed := true, recurses := true, apart := false }
def ControlIdentitiesSaid : Prop := controlIdentitiesRow.holds Try.pinned (OpenSpec.ofChange controlIdentitiesSpec)

/-- ITS FALSE NEIGHBOUR: 'it returns false'. Refute it at one input. -/
def controlIdentitiesWrong : ChangeSpec := { name := "controlIdentities", fn := fun _ => fun
  | [d1, d2, d3] => { results := [.lit (.bool false)], args := [d1, d2, d3] }
  | _ => none }
def ControlIdentitiesWrongFalsely : Prop := controlIdentitiesRow.holds Try.pinned (OpenSpec.ofChange controlIdentitiesWrong)

/-- 'userplanelaw24.ControlLimits': WHATEVER THE INPUT: true; the input reads as it did. -/
def controlLimitsSpec : ChangeSpec := { name := "controlLimits", fn := fun _ => fun
  | [d] => { results := [.lit (.bool true)], args := [d] }
  | _ => none }
def controlLimitsRow : OpenClaim := { program := "yteabcdmgklhijaa", sum := "6400e47353f614309aee1a86d58d8e05f062bc11d498ada1ce0d538da238c637", func := "userplane/userplanelaw24.ControlLimits", spec := "controlLimits", unfollowed := true, recurses := true, apart := false }
def ControlLimitsSaid : Prop := controlLimitsRow.holds Try.pinned (OpenSpec.ofChange controlLimitsSpec)

/-- ITS FALSE NEIGHBOUR: 'it returns false'. Refute it at one input. -/
def controlLimitsWrong : ChangeSpec := { name := "controlLimits", fn := fun _ => fun
  | [d] => { results := [.lit (.bool false)], args := [d] }
  | _ => none }
def ControlLimitsWrongFalsely : Prop := controlLimitsRow.holds Try.pinned (OpenSpec.ofChange controlLimitsWrong)

/-- 'userplanelaw24.ControlDecodes': WHATEVER THE INPUT: true; the input reads as it did. -/
def controlDecodesSpec : ChangeSpec := { name := "controlDecodes", fn := fun _ => fun
  | [d] => { results := [.lit (.bool true)], args := [d] }
  | _ => none }
def controlDecodesRow : OpenClaim := { program := "yteabcdmgklhijaa", sum := "6400e47353f614309aee1a86d58d8e05f062bc11d498ada1ce0d538da238c637", func := "userplane/userplanelaw24.ControlDecodes", spec := "controlDecodes", unfollowed := true, recurses := true, apart := false }
def ControlDecodesSaid : Prop := controlDecodesRow.holds Try.pinned (OpenSpec.ofChange controlDecodesSpec)

/-- ITS FALSE NEIGHBOUR: 'it returns false'. Refute it at one input. -/
def controlDecodesWrong : ChangeSpec := { name := "controlDecodes", fn := fun _ => fun
  | [d] => { results := [.lit (.bool false)], args := [d] }
  | _ => none }
def ControlDecodesWrongFalsely : Prop := controlDecodesRow.holds Try.pinned (OpenSpec.ofChange controlDecodesWrong)

/-- 'userplanelaw24.ControlHolds': WHATEVER THE INPUT: true; the input reads as it did. -/
def controlHoldsSpec : ChangeSpec := { name := "controlHolds", fn := fun _ => fun
  | [d1, d2, d3, d4, d5, d6] => { results := [.lit (.bool true)], args := [d1, d2, d3, d4, d5, d6] }
  | _ => none }
def controlHoldsRow : OpenClaim := { program := "yteabcdmgklhijaa", sum := "6400e47353f614309aee1a86d58d8e05f062bc11d498ada1ce0d538da238c637", func := "userplane/userplanelaw24.ControlHolds", spec := "controlHolds", unfollowed := true, recurses := true, apart := false }
def ControlHoldsSaid : Prop := controlHoldsRow.holds Try.pinned (OpenSpec.ofChange controlHoldsSpec)

/-- ITS FALSE NEIGHBOUR: 'it returns false'. Refute it at one input. -/
def controlHoldsWrong : ChangeSpec := { name := "controlHolds", fn := fun _ => fun
  | [d1, d2, d3, d4, d5, d6] => { results := [.lit (.bool false)], args := [d1, d2, d3, d4, d5, d6] }
  | _ => none }
def ControlHoldsWrongFalsely : Prop := controlHoldsRow.holds Try.pinned (OpenSpec.ofChange controlHoldsWrong)

/- THE SECOND FORM. 'bulk': how many values and letters a reading holds, each counted each time it is reached (what is shared counts as often as it is met; a slice's spare places count too). A statement '..UptoSaid' is the law's where the arguments, and the package variables that the reading takes, are together of bulk at most 1048576: NARROWER than '..Said'. Prove '..Said' where nothing that the law and all that it calls make is longer than what came in: it says more and counts as full. Else prove '..UptoSaid'. A law counts once. -/
mutual
def uptoBulk {H : Type} : DataW H → Nat
  | .lit (.string bytes) => bytes.length + 1
  | .lit _ => 1
  | .nil => 1
  | .ptr d => uptoBulk d + 1
  | .slice elems spare => uptoBulkAll elems + uptoBulkAll spare + 1
  | .agg parts => uptoBulkAll parts + 1
  | .iface _ d => uptoBulk d + 1
  | .map entries => uptoBulkEntries entries + 1
  | .held _ => 1
def uptoBulkAll {H : Type} : List (DataW H) → Nat
  | [] => 0
  | d :: r => uptoBulk d + uptoBulkAll r
def uptoBulkEntries {H : Type} : List (Lit × DataW H) → Nat
  | [] => 0
  | x :: r => uptoBulkEntry x + uptoBulkEntries r
def uptoBulkEntry {H : Type} : Lit × DataW H → Nat
  | (.string bytes, d) => bytes.length + uptoBulk d + 1
  | (_, d) => uptoBulk d + 1
 end
def uptoSmall : (H : Type) → List (DataW H) → Bool := fun _ ds => decide (uptoBulkAll ds ≤ 1048576)
def OpenSpec.upto (s : _root_.Go.ChangeSpec) : _root_.Go.OpenSpec := { _root_.Go.OpenSpec.ofChange s with cond := some uptoSmall }

/-- 'userplanelaw24.ControlLevels', WHERE WHAT IT READS IS OF BULK AT MOST 1048576: true; the input reads as it did. -/
def controlLevelsUptoRow : OpenClaim := { program := "yteabcdmgklhijaa", sum := "6400e47353f614309aee1a86d58d8e05f062bc11d498ada1ce0d538da238c637", func := "userplane/userplanelaw24.ControlLevels", spec := "controlLevels", unfollowed := true, recurses := true, apart := false, narrowed := true }
def ControlLevelsUptoSaid : Prop := controlLevelsUptoRow.holds Try.pinned (OpenSpec.upto controlLevelsSpec)

/-- 'userplanelaw24.ControlReports', WHERE WHAT IT READS IS OF BULK AT MOST 1048576: true; the input reads as it did. -/
def controlReportsUptoRow : OpenClaim := { program := "yteabcdmgklhijaa", sum := "6400e47353f614309aee1a86d58d8e05f062bc11d498ada1ce0d538da238c637", func := "userplane/userplanelaw24.ControlReports", spec := "controlReports", unfollowed := true, recurses := true, apart := false, narrowed := true }
def ControlReportsUptoSaid : Prop := controlReportsUptoRow.holds Try.pinned (OpenSpec.upto controlReportsSpec)

/-- 'userplanelaw24.ControlIdentities', WHERE WHAT IT READS IS OF BULK AT MOST 1048576: true; the input reads as it did. -/
def controlIdentitiesUptoRow : OpenClaim := { program := "yteabcdmgklhijaa", sum := "6400e47353f614309aee1a86d58d8e05f062bc11d498ada1ce0d538da238c637", func := "userplane/userplanelaw24.ControlIdentities", spec := "controlIdentities", unfollowed := true, recurses := true, apart := false, narrowed := true }
def ControlIdentitiesUptoSaid : Prop := controlIdentitiesUptoRow.holds Try.pinned (OpenSpec.upto controlIdentitiesSpec)

/-- 'userplanelaw24.ControlLimits', WHERE WHAT IT READS IS OF BULK AT MOST 1048576: true; the input reads as it did. -/
def controlLimitsUptoRow : OpenClaim := { program := "yteabcdmgklhijaa", sum := "6400e47353f614309aee1a86d58d8e05f062bc11d498ada1ce0d538da238c637", func := "userplane/userplanelaw24.ControlLimits", spec := "controlLimits", unfollowed := true, recurses := true, apart := false, narrowed := true }
def ControlLimitsUptoSaid : Prop := controlLimitsUptoRow.holds Try.pinned (OpenSpec.upto controlLimitsSpec)

/-- 'userplanelaw24.ControlDecodes', WHERE WHAT IT READS IS OF BULK AT MOST 1048576: true; the input reads as it did. -/
def controlDecodesUptoRow : OpenClaim := { program := "yteabcdmgklhijaa", sum := "6400e47353f614309aee1a86d58d8e05f062bc11d498ada1ce0d538da238c637", func := "userplane/userplanelaw24.ControlDecodes", spec := "controlDecodes", unfollowed := true, recurses := true, apart := false, narrowed := true }
def ControlDecodesUptoSaid : Prop := controlDecodesUptoRow.holds Try.pinned (OpenSpec.upto controlDecodesSpec)

/-- 'userplanelaw24.ControlHolds', WHERE WHAT IT READS IS OF BULK AT MOST 1048576: true; the input reads as it did. -/
def controlHoldsUptoRow : OpenClaim := { program := "yteabcdmgklhijaa", sum := "6400e47353f614309aee1a86d58d8e05f062bc11d498ada1ce0d538da238c637", func := "userplane/userplanelaw24.ControlHolds", spec := "controlHolds", unfollowed := true, recurses := true, apart := false, narrowed := true }
def ControlHoldsUptoSaid : Prop := controlHoldsUptoRow.holds Try.pinned (OpenSpec.upto controlHoldsSpec)

end Rows
end Go.Proofs.Yteabcdmgklhijaa
