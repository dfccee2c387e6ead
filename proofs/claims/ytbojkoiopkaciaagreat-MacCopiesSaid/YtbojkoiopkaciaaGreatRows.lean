/-
  No cell of these rows narrows 'for every input' (looked for: loops, veiled, ifaces, maps, wideKeys, modest, calm, conditions, laid).
  DERIVED. THE GIVEN ROWS OF THIS SEAT. 6 by the template 'for every input the law returns true; each argument reads behind the call as it read before'; 0 by the template 'total and deterministic' (their statements: YtbojkoiopkaciaaGreatTotals.lean).
  GIVEN WITH THE SEED: the statements are not yours to turn. If you find one false, say at which input.
  Laid BY PROGRAM, IN A SANDBOX (cutbox-rows.mjs): the forced cells as the released guide's own fill.sh prints them over the translation 6221383d25a61dd5… (all of the seat's roots in one cut). By AI agents, Wed Nov 11 2026. No macro, syntax, notation, axiom, sorry.
-/
import Derived.Test.YtbojkoiopkaciaaGreatChecked
import GoSem.Claim
import GoSem.ClaimJoined
import GoSem.ClaimMapViews
import Derived.JoinedTies
import Derived.KernelRfl
namespace Go.Proofs.YtbojkoiopkaciaaGreat
/- THE CELL 'sum', in the pinned program and in every row, IS THE sha256 OF THE DUMP (.gsa) THAT YtbojkoiopkaciaaGreatProg.lean LOADS. Nothing in Lean hashes anything: it is a label: what it is worth is what the hold of that sum in a sandbox is worth. -/
noncomputable def Tryz.pinned : Pinned := { name := "ytbojkoiopkaciaagreat", sum := "6221383d25a61dd56f2166fbbf283ad69744c01f66ac16daa6da9d57c4e69489", checked := Tryz.checked }
namespace Rows
def none {H : Type} : Left H := { results := [], args := [] }

/-- 'userplanelaw29.MacPlays': WHATEVER THE INPUT: true; the input reads as it did. -/
def macPlaysSpec : ChangeSpec := { name := "macPlays", fn := fun _ => fun
  | [d1, d2] => { results := [.lit (.bool true)], args := [d1, d2] }
  | _ => none }
def macPlaysRow : OpenClaim := { program := "ytbojkoiopkaciaagreat", sum := "6221383d25a61dd56f2166fbbf283ad69744c01f66ac16daa6da9d57c4e69489", func := "userplane/userplanelaw29.MacPlays", spec := "macPlays", unfollowed := true, recurses := true, apart := false }
def MacPlaysSaid : Prop := macPlaysRow.holds Tryz.pinned (OpenSpec.ofChange macPlaysSpec)

/-- ITS FALSE NEIGHBOUR: 'it returns false'. Refute it at one input. -/
def macPlaysWrong : ChangeSpec := { name := "macPlays", fn := fun _ => fun
  | [d1, d2] => { results := [.lit (.bool false)], args := [d1, d2] }
  | _ => none }
def MacPlaysWrongFalsely : Prop := macPlaysRow.holds Tryz.pinned (OpenSpec.ofChange macPlaysWrong)

/-- 'userplanelaw29.MacNone': WHATEVER THE INPUT: true; the input reads as it did. -/
def macNoneSpec : ChangeSpec := { name := "macNone", fn := fun _ => fun
  | [d1, d2] => { results := [.lit (.bool true)], args := [d1, d2] }
  | _ => none }
def macNoneRow : OpenClaim := { program := "ytbojkoiopkaciaagreat", sum := "6221383d25a61dd56f2166fbbf283ad69744c01f66ac16daa6da9d57c4e69489", func := "userplane/userplanelaw29.MacNone", spec := "macNone", unfollowed := true, recurses := true, apart := false }
def MacNoneSaid : Prop := macNoneRow.holds Tryz.pinned (OpenSpec.ofChange macNoneSpec)

/-- ITS FALSE NEIGHBOUR: 'it returns false'. Refute it at one input. -/
def macNoneWrong : ChangeSpec := { name := "macNone", fn := fun _ => fun
  | [d1, d2] => { results := [.lit (.bool false)], args := [d1, d2] }
  | _ => none }
def MacNoneWrongFalsely : Prop := macNoneRow.holds Tryz.pinned (OpenSpec.ofChange macNoneWrong)

/-- 'userplanelaw29.MacReceives': WHATEVER THE INPUT: true; the input reads as it did. -/
def macReceivesSpec : ChangeSpec := { name := "macReceives", fn := fun _ => fun
  | [d1, d2] => { results := [.lit (.bool true)], args := [d1, d2] }
  | _ => none }
def macReceivesRow : OpenClaim := { program := "ytbojkoiopkaciaagreat", sum := "6221383d25a61dd56f2166fbbf283ad69744c01f66ac16daa6da9d57c4e69489", func := "userplane/userplanelaw29.MacReceives", spec := "macReceives", unfollowed := true, recurses := true, apart := false }
def MacReceivesSaid : Prop := macReceivesRow.holds Tryz.pinned (OpenSpec.ofChange macReceivesSpec)

/-- ITS FALSE NEIGHBOUR: 'it returns false'. Refute it at one input. -/
def macReceivesWrong : ChangeSpec := { name := "macReceives", fn := fun _ => fun
  | [d1, d2] => { results := [.lit (.bool false)], args := [d1, d2] }
  | _ => none }
def MacReceivesWrongFalsely : Prop := macReceivesRow.holds Tryz.pinned (OpenSpec.ofChange macReceivesWrong)

/-- 'userplanelaw29.MacHolds': WHATEVER THE INPUT: true; the input reads as it did. -/
def macHoldsSpec : ChangeSpec := { name := "macHolds", fn := fun _ => fun
  | [d1, d2, d3, d4, d5] => { results := [.lit (.bool true)], args := [d1, d2, d3, d4, d5] }
  | _ => none }
def macHoldsRow : OpenClaim := { program := "ytbojkoiopkaciaagreat", sum := "6221383d25a61dd56f2166fbbf283ad69744c01f66ac16daa6da9d57c4e69489", func := "userplane/userplanelaw29.MacHolds", spec := "macHolds", unfollowed := true, recurses := true, apart := false }
def MacHoldsSaid : Prop := macHoldsRow.holds Tryz.pinned (OpenSpec.ofChange macHoldsSpec)

/-- ITS FALSE NEIGHBOUR: 'it returns false'. Refute it at one input. -/
def macHoldsWrong : ChangeSpec := { name := "macHolds", fn := fun _ => fun
  | [d1, d2, d3, d4, d5] => { results := [.lit (.bool false)], args := [d1, d2, d3, d4, d5] }
  | _ => none }
def MacHoldsWrongFalsely : Prop := macHoldsRow.holds Tryz.pinned (OpenSpec.ofChange macHoldsWrong)

/-- 'userplanelaw29.MacCopies': WHATEVER THE INPUT: true; the input reads as it did. -/
def macCopiesSpec : ChangeSpec := { name := "macCopies", fn := fun _ => fun
  | [d1, d2, d3, d4] => { results := [.lit (.bool true)], args := [d1, d2, d3, d4] }
  | _ => none }
def macCopiesRow : OpenClaim := { program := "ytbojkoiopkaciaagreat", sum := "6221383d25a61dd56f2166fbbf283ad69744c01f66ac16daa6da9d57c4e69489", func := "userplane/userplanelaw29.MacCopies", spec := "macCopies", unfollowed := true, recurses := true, apart := false }
def MacCopiesSaid : Prop := macCopiesRow.holds Tryz.pinned (OpenSpec.ofChange macCopiesSpec)

/-- ITS FALSE NEIGHBOUR: 'it returns false'. Refute it at one input. -/
def macCopiesWrong : ChangeSpec := { name := "macCopies", fn := fun _ => fun
  | [d1, d2, d3, d4] => { results := [.lit (.bool false)], args := [d1, d2, d3, d4] }
  | _ => none }
def MacCopiesWrongFalsely : Prop := macCopiesRow.holds Tryz.pinned (OpenSpec.ofChange macCopiesWrong)

/-- 'userplanelaw29.MacChannels': WHATEVER THE INPUT: true; the input reads as it did. -/
def macChannelsSpec : ChangeSpec := { name := "macChannels", fn := fun _ => fun
  | [d1, d2] => { results := [.lit (.bool true)], args := [d1, d2] }
  | _ => none }
def macChannelsRow : OpenClaim := { program := "ytbojkoiopkaciaagreat", sum := "6221383d25a61dd56f2166fbbf283ad69744c01f66ac16daa6da9d57c4e69489", func := "userplane/userplanelaw29.MacChannels", spec := "macChannels", unfollowed := true, recurses := true, apart := false }
def MacChannelsSaid : Prop := macChannelsRow.holds Tryz.pinned (OpenSpec.ofChange macChannelsSpec)

/-- ITS FALSE NEIGHBOUR: 'it returns false'. Refute it at one input. -/
def macChannelsWrong : ChangeSpec := { name := "macChannels", fn := fun _ => fun
  | [d1, d2] => { results := [.lit (.bool false)], args := [d1, d2] }
  | _ => none }
def MacChannelsWrongFalsely : Prop := macChannelsRow.holds Tryz.pinned (OpenSpec.ofChange macChannelsWrong)

/- THE SECOND FORM. 'bulk': how many values and letters a reading holds, each counted each time it is reached (what is shared counts as often as it is met; a slice's spare places count too). A statement '..UptoSaid' is the law's where the arguments, and the package variables that the reading takes, are together of bulk at most 1048576: NARROWER than '..Said'. Prove '..Said' where nothing that the law and all that it calls make is longer than what came in: it says more and counts as full. Else prove '..UptoSaid'. A law counts once. -/
mutual
def uptoBulk {H : Type} : DataW H → Nat
  | .lit (.string bytes) => bytes.length + 1
  | .lit _ => 1
  | .nil => 1
  | .ptr d => uptoBulk d + 1
  | .slice elems spare => uptoBulkAll elems + uptoBulkAll spare + 1
  | .agg parts => uptoBulkAll parts + 1
  | .iface _ d => uptoBulk d + 1
  | .map entries => uptoBulkEntries entries + 1
  | .held _ => 1
def uptoBulkAll {H : Type} : List (DataW H) → Nat
  | [] => 0
  | d :: r => uptoBulk d + uptoBulkAll r
def uptoBulkEntries {H : Type} : List (Lit × DataW H) → Nat
  | [] => 0
  | x :: r => uptoBulkEntry x + uptoBulkEntries r
def uptoBulkEntry {H : Type} : Lit × DataW H → Nat
  | (.string bytes, d) => bytes.length + uptoBulk d + 1
  | (_, d) => uptoBulk d + 1
 end
def uptoSmall : (H : Type) → List (DataW H) → Bool := fun _ ds => decide (uptoBulkAll ds ≤ 1048576)
def OpenSpec.upto (s : _root_.Go.ChangeSpec) : _root_.Go.OpenSpec := { _root_.Go.OpenSpec.ofChange s with cond := some uptoSmall }

/-- 'userplanelaw29.MacPlays', WHERE WHAT IT READS IS OF BULK AT MOST 1048576: true; the input reads as it did. -/
def macPlaysUptoRow : OpenClaim := { program := "ytbojkoiopkaciaagreat", sum := "6221383d25a61dd56f2166fbbf283ad69744c01f66ac16daa6da9d57c4e69489", func := "userplane/userplanelaw29.MacPlays", spec := "macPlays", unfollowed := true, recurses := true, apart := false, narrowed := true }
def MacPlaysUptoSaid : Prop := macPlaysUptoRow.holds Tryz.pinned (OpenSpec.upto macPlaysSpec)

/-- 'userplanelaw29.MacNone', WHERE WHAT IT READS IS OF BULK AT MOST 1048576: true; the input reads as it did. -/
def macNoneUptoRow : OpenClaim := { program := "ytbojkoiopkaciaagreat", sum := "6221383d25a61dd56f2166fbbf283ad69744c01f66ac16daa6da9d57c4e69489", func := "userplane/userplanelaw29.MacNone", spec := "macNone", unfollowed := true, recurses := true, apart := false, narrowed := true }
def MacNoneUptoSaid : Prop := macNoneUptoRow.holds Tryz.pinned (OpenSpec.upto macNoneSpec)

/-- 'userplanelaw29.MacReceives', WHERE WHAT IT READS IS OF BULK AT MOST 1048576: true; the input reads as it did. -/
def macReceivesUptoRow : OpenClaim := { program := "ytbojkoiopkaciaagreat", sum := "6221383d25a61dd56f2166fbbf283ad69744c01f66ac16daa6da9d57c4e69489", func := "userplane/userplanelaw29.MacReceives", spec := "macReceives", unfollowed := true, recurses := true, apart := false, narrowed := true }
def MacReceivesUptoSaid : Prop := macReceivesUptoRow.holds Tryz.pinned (OpenSpec.upto macReceivesSpec)

/-- 'userplanelaw29.MacHolds', WHERE WHAT IT READS IS OF BULK AT MOST 1048576: true; the input reads as it did. -/
def macHoldsUptoRow : OpenClaim := { program := "ytbojkoiopkaciaagreat", sum := "6221383d25a61dd56f2166fbbf283ad69744c01f66ac16daa6da9d57c4e69489", func := "userplane/userplanelaw29.MacHolds", spec := "macHolds", unfollowed := true, recurses := true, apart := false, narrowed := true }
def MacHoldsUptoSaid : Prop := macHoldsUptoRow.holds Tryz.pinned (OpenSpec.upto macHoldsSpec)

/-- 'userplanelaw29.MacCopies', WHERE WHAT IT READS IS OF BULK AT MOST 1048576: true; the input reads as it did. -/
def macCopiesUptoRow : OpenClaim := { program := "ytbojkoiopkaciaagreat", sum := "6221383d25a61dd56f2166fbbf283ad69744c01f66ac16daa6da9d57c4e69489", func := "userplane/userplanelaw29.MacCopies", spec := "macCopies", unfollowed := true, recurses := true, apart := false, narrowed := true }
def MacCopiesUptoSaid : Prop := macCopiesUptoRow.holds Tryz.pinned (OpenSpec.upto macCopiesSpec)

/-- 'userplanelaw29.MacChannels', WHERE WHAT IT READS IS OF BULK AT MOST 1048576: true; the input reads as it did. -/
def macChannelsUptoRow : OpenClaim := { program := "ytbojkoiopkaciaagreat", sum := "6221383d25a61dd56f2166fbbf283ad69744c01f66ac16daa6da9d57c4e69489", func := "userplane/userplanelaw29.MacChannels", spec := "macChannels", unfollowed := true, recurses := true, apart := false, narrowed := true }
def MacChannelsUptoSaid : Prop := macChannelsUptoRow.holds Tryz.pinned (OpenSpec.upto macChannelsSpec)

end Rows
end Go.Proofs.YtbojkoiopkaciaaGreat
