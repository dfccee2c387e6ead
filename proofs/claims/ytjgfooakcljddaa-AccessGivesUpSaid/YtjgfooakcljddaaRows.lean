/-
  No cell of these rows narrows 'for every input' (looked for: loops, veiled, ifaces, maps, wideKeys, modest, calm, conditions, laid).
  DERIVED. THE GIVEN ROWS OF THIS SEAT. 6 by the template 'for every input the law returns true; each argument reads behind the call as it read before'; 0 by the template 'total and deterministic' (their statements: YtjgfooakcljddaaTotals.lean).
  GIVEN WITH THE SEED: the statements are not yours to turn. If you find one false, say at which input.
  Laid BY PROGRAM, IN A SANDBOX (cutbox-rows.mjs): the forced cells as the released guide's own fill.sh prints them over the translation aeba7153c7723f79… (all of the seat's roots in one cut). By AI agents, Wed Nov 11 2026. No macro, syntax, notation, axiom, sorry.
-/
import Derived.Test.YtjgfooakcljddaaChecked
import GoSem.Claim
import GoSem.ClaimJoined
import GoSem.ClaimMapViews
import Derived.JoinedTies
import Derived.KernelRfl
namespace Go.Proofs.Ytjgfooakcljddaa
/- THE CELL 'sum', in the pinned program and in every row, IS THE sha256 OF THE DUMP (.gsa) THAT YtjgfooakcljddaaProg.lean LOADS. Nothing in Lean hashes anything: it is a label: what it is worth is what the hold of that sum in a sandbox is worth. -/
noncomputable def Try.pinned : Pinned := { name := "ytjgfooakcljddaa", sum := "aeba7153c7723f7914c34f2b05c85da90cebb5fed0666a8253f52475edb8719a", checked := Try.checked }
namespace Rows
def none {H : Type} : Left H := { results := [], args := [] }

/-- 'userplanelaw27.AccessWins': WHATEVER THE INPUT: true; the input reads as it did. -/
def accessWinsSpec : ChangeSpec := { name := "accessWins", fn := fun _ => fun
  | [d1, d2, d3, d4, d5, d6] => { results := [.lit (.bool true)], args := [d1, d2, d3, d4, d5, d6] }
  | _ => none }
def accessWinsRow : OpenClaim := { program := "ytjgfooakcljddaa", sum := "aeba7153c7723f7914c34f2b05c85da90cebb5fed0666a8253f52475edb8719a", func := "userplane/userplanelaw27.AccessWins", spec := "accessWins", unfollowed := true, recurses := true, apart := false }
def AccessWinsSaid : Prop := accessWinsRow.holds Try.pinned (OpenSpec.ofChange accessWinsSpec)

/-- ITS FALSE NEIGHBOUR: 'it returns false'. Refute it at one input. -/
def accessWinsWrong : ChangeSpec := { name := "accessWins", fn := fun _ => fun
  | [d1, d2, d3, d4, d5, d6] => { results := [.lit (.bool false)], args := [d1, d2, d3, d4, d5, d6] }
  | _ => none }
def AccessWinsWrongFalsely : Prop := accessWinsRow.holds Try.pinned (OpenSpec.ofChange accessWinsWrong)

/-- 'userplanelaw27.AccessForeign': WHATEVER THE INPUT: true; the input reads as it did. -/
def accessForeignSpec : ChangeSpec := { name := "accessForeign", fn := fun _ => fun
  | [d1, d2, d3] => { results := [.lit (.bool true)], args := [d1, d2, d3] }
  | _ => none }
def accessForeignRow : OpenClaim := { program := "ytjgfooakcljddaa", sum := "aeba7153c7723f7914c34f2b05c85da90cebb5fed0666a8253f52475edb8719a", func := "userplane/userplanelaw27.AccessForeign", spec := "accessForeign", unfollowed := true, recurses := true, apart := false }
def AccessForeignSaid : Prop := accessForeignRow.holds Try.pinned (OpenSpec.ofChange accessForeignSpec)

/-- ITS FALSE NEIGHBOUR: 'it returns false'. Refute it at one input. -/
def accessForeignWrong : ChangeSpec := { name := "accessForeign", fn := fun _ => fun
  | [d1, d2, d3] => { results := [.lit (.bool false)], args := [d1, d2, d3] }
  | _ => none }
def AccessForeignWrongFalsely : Prop := accessForeignRow.holds Try.pinned (OpenSpec.ofChange accessForeignWrong)

/-- 'userplanelaw27.AccessRuns': WHATEVER THE INPUT: true; the input reads as it did. -/
def accessRunsSpec : ChangeSpec := { name := "accessRuns", fn := fun _ => fun
  | [d1, d2] => { results := [.lit (.bool true)], args := [d1, d2] }
  | _ => none }
def accessRunsRow : OpenClaim := { program := "ytjgfooakcljddaa", sum := "aeba7153c7723f7914c34f2b05c85da90cebb5fed0666a8253f52475edb8719a", func := "userplane/userplanelaw27.AccessRuns", spec := "accessRuns", unfollowed := true, recurses := true, apart := false }
def AccessRunsSaid : Prop := accessRunsRow.holds Try.pinned (OpenSpec.ofChange accessRunsSpec)

/-- ITS FALSE NEIGHBOUR: 'it returns false'. Refute it at one input. -/
def accessRunsWrong : ChangeSpec := { name := "accessRuns", fn := fun _ => fun
  | [d1, d2] => { results := [.lit (.bool false)], args := [d1, d2] }
  | _ => none }
def AccessRunsWrongFalsely : Prop := accessRunsRow.holds Try.pinned (OpenSpec.ofChange accessRunsWrong)

/-- 'userplanelaw27.AccessGivesUp': WHATEVER THE INPUT: true; the input reads as it did. -/
def accessGivesUpSpec : ChangeSpec := { name := "accessGivesUp", fn := fun _ => fun
  | [d1, d2] => { results := [.lit (.bool true)], args := [d1, d2] }
  | _ => none }
def accessGivesUpRow : OpenClaim := { program := "ytjgfooakcljddaa", sum := "aeba7153c7723f7914c34f2b05c85da90cebb5fed0666a8253f52475edb8719a", func := "userplane/userplanelaw27.AccessGivesUp", spec := "accessGivesUp", unfollowed := true, recurses := true, apart := false }
def AccessGivesUpSaid : Prop := accessGivesUpRow.holds Try.pinned (OpenSpec.ofChange accessGivesUpSpec)

/-- ITS FALSE NEIGHBOUR: 'it returns false'. Refute it at one input. -/
def accessGivesUpWrong : ChangeSpec := { name := "accessGivesUp", fn := fun _ => fun
  | [d1, d2] => { results := [.lit (.bool false)], args := [d1, d2] }
  | _ => none }
def AccessGivesUpWrongFalsely : Prop := accessGivesUpRow.holds Try.pinned (OpenSpec.ofChange accessGivesUpWrong)

/-- 'userplanelaw27.AccessCopies': WHATEVER THE INPUT: true; the input reads as it did. -/
def accessCopiesSpec : ChangeSpec := { name := "accessCopies", fn := fun _ => fun
  | [d1, d2, d3, d4] => { results := [.lit (.bool true)], args := [d1, d2, d3, d4] }
  | _ => none }
def accessCopiesRow : OpenClaim := { program := "ytjgfooakcljddaa", sum := "aeba7153c7723f7914c34f2b05c85da90cebb5fed0666a8253f52475edb8719a", func := "userplane/userplanelaw27.AccessCopies", spec := "accessCopies", unfollowed := true, recurses := true, apart := false }
def AccessCopiesSaid : Prop := accessCopiesRow.holds Try.pinned (OpenSpec.ofChange accessCopiesSpec)

/-- ITS FALSE NEIGHBOUR: 'it returns false'. Refute it at one input. -/
def accessCopiesWrong : ChangeSpec := { name := "accessCopies", fn := fun _ => fun
  | [d1, d2, d3, d4] => { results := [.lit (.bool false)], args := [d1, d2, d3, d4] }
  | _ => none }
def AccessCopiesWrongFalsely : Prop := accessCopiesRow.holds Try.pinned (OpenSpec.ofChange accessCopiesWrong)

/-- 'userplanelaw27.AccessNil': WHATEVER THE INPUT: true; the input reads as it did. -/
def accessNilSpec : ChangeSpec := { name := "accessNil", fn := fun _ => fun
  | [d] => { results := [.lit (.bool true)], args := [d] }
  | _ => none }
def accessNilRow : OpenClaim := { program := "ytjgfooakcljddaa", sum := "aeba7153c7723f7914c34f2b05c85da90cebb5fed0666a8253f52475edb8719a", func := "userplane/userplanelaw27.AccessNil", spec := "accessNil", unfollowed := true, recurses := true, apart := false }
def AccessNilSaid : Prop := accessNilRow.holds Try.pinned (OpenSpec.ofChange accessNilSpec)

/-- ITS FALSE NEIGHBOUR: 'it returns false'. Refute it at one input. -/
def accessNilWrong : ChangeSpec := { name := "accessNil", fn := fun _ => fun
  | [d] => { results := [.lit (.bool false)], args := [d] }
  | _ => none }
def AccessNilWrongFalsely : Prop := accessNilRow.holds Try.pinned (OpenSpec.ofChange accessNilWrong)

/- THE SECOND FORM. 'bulk': how many values and letters a reading holds, each counted each time it is reached (what is shared counts as often as it is met; a slice's spare places count too). A statement '..UptoSaid' is the law's where the arguments, and the package variables that the reading takes, are together of bulk at most 1048576: NARROWER than '..Said'. Prove '..Said' where nothing that the law and all that it calls make is longer than what came in: it says more and counts as full. Else prove '..UptoSaid'. A law counts once. -/
mutual
def uptoBulk {H : Type} : DataW H → Nat
  | .lit (.string bytes) => bytes.length + 1
  | .lit _ => 1
  | .nil => 1
  | .ptr d => uptoBulk d + 1
  | .slice elems spare => uptoBulkAll elems + uptoBulkAll spare + 1
  | .agg parts => uptoBulkAll parts + 1
  | .iface _ d => uptoBulk d + 1
  | .map entries => uptoBulkEntries entries + 1
  | .held _ => 1
def uptoBulkAll {H : Type} : List (DataW H) → Nat
  | [] => 0
  | d :: r => uptoBulk d + uptoBulkAll r
def uptoBulkEntries {H : Type} : List (Lit × DataW H) → Nat
  | [] => 0
  | x :: r => uptoBulkEntry x + uptoBulkEntries r
def uptoBulkEntry {H : Type} : Lit × DataW H → Nat
  | (.string bytes, d) => bytes.length + uptoBulk d + 1
  | (_, d) => uptoBulk d + 1
 end
def uptoSmall : (H : Type) → List (DataW H) → Bool := fun _ ds => decide (uptoBulkAll ds ≤ 1048576)
def OpenSpec.upto (s : _root_.Go.ChangeSpec) : _root_.Go.OpenSpec := { _root_.Go.OpenSpec.ofChange s with cond := some uptoSmall }

/-- 'userplanelaw27.AccessWins', WHERE WHAT IT READS IS OF BULK AT MOST 1048576: true; the input reads as it did. -/
def accessWinsUptoRow : OpenClaim := { program := "ytjgfooakcljddaa", sum := "aeba7153c7723f7914c34f2b05c85da90cebb5fed0666a8253f52475edb8719a", func := "userplane/userplanelaw27.AccessWins", spec := "accessWins", unfollowed := true, recurses := true, apart := false, narrowed := true }
def AccessWinsUptoSaid : Prop := accessWinsUptoRow.holds Try.pinned (OpenSpec.upto accessWinsSpec)

/-- 'userplanelaw27.AccessForeign', WHERE WHAT IT READS IS OF BULK AT MOST 1048576: true; the input reads as it did. -/
def accessForeignUptoRow : OpenClaim := { program := "ytjgfooakcljddaa", sum := "aeba7153c7723f7914c34f2b05c85da90cebb5fed0666a8253f52475edb8719a", func := "userplane/userplanelaw27.AccessForeign", spec := "accessForeign", unfollowed := true, recurses := true, apart := false, narrowed := true }
def AccessForeignUptoSaid : Prop := accessForeignUptoRow.holds Try.pinned (OpenSpec.upto accessForeignSpec)

/-- 'userplanelaw27.AccessRuns', WHERE WHAT IT READS IS OF BULK AT MOST 1048576: true; the input reads as it did. -/
def accessRunsUptoRow : OpenClaim := { program := "ytjgfooakcljddaa", sum := "aeba7153c7723f7914c34f2b05c85da90cebb5fed0666a8253f52475edb8719a", func := "userplane/userplanelaw27.AccessRuns", spec := "accessRuns", unfollowed := true, recurses := true, apart := false, narrowed := true }
def AccessRunsUptoSaid : Prop := accessRunsUptoRow.holds Try.pinned (OpenSpec.upto accessRunsSpec)

/-- 'userplanelaw27.AccessGivesUp', WHERE WHAT IT READS IS OF BULK AT MOST 1048576: true; the input reads as it did. -/
def accessGivesUpUptoRow : OpenClaim := { program := "ytjgfooakcljddaa", sum := "aeba7153c7723f7914c34f2b05c85da90cebb5fed0666a8253f52475edb8719a", func := "userplane/userplanelaw27.AccessGivesUp", spec := "accessGivesUp", unfollowed := true, recurses := true, apart := false, narrowed := true }
def AccessGivesUpUptoSaid : Prop := accessGivesUpUptoRow.holds Try.pinned (OpenSpec.upto accessGivesUpSpec)

/-- 'userplanelaw27.AccessCopies', WHERE WHAT IT READS IS OF BULK AT MOST 1048576: true; the input reads as it did. -/
def accessCopiesUptoRow : OpenClaim := { program := "ytjgfooakcljddaa", sum := "aeba7153c7723f7914c34f2b05c85da90cebb5fed0666a8253f52475edb8719a", func := "userplane/userplanelaw27.AccessCopies", spec := "accessCopies", unfollowed := true, recurses := true, apart := false, narrowed := true }
def AccessCopiesUptoSaid : Prop := accessCopiesUptoRow.holds Try.pinned (OpenSpec.upto accessCopiesSpec)

/-- 'userplanelaw27.AccessNil', WHERE WHAT IT READS IS OF BULK AT MOST 1048576: true; the input reads as it did. -/
def accessNilUptoRow : OpenClaim := { program := "ytjgfooakcljddaa", sum := "aeba7153c7723f7914c34f2b05c85da90cebb5fed0666a8253f52475edb8719a", func := "userplane/userplanelaw27.AccessNil", spec := "accessNil", unfollowed := true, recurses := true, apart := false, narrowed := true }
def AccessNilUptoSaid : Prop := accessNilUptoRow.holds Try.pinned (OpenSpec.upto accessNilSpec)

end Rows
end Go.Proofs.Ytjgfooakcljddaa
