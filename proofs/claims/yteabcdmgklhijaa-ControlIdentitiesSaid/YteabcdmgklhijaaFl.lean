/- FieldOwn. -/
import Derived.Test.YteabcdmgklhijaaFr
namespace Go.Proofs.Yteabcdmgklhijaa
open Go.RowKit
set_option linter.unusedSimpArgs false
set_option linter.unusedVariables false

theorem ints_set {k : IntKind} {l : List Int} {i : Nat} {z : Int} : (ints k l).set i (.int k z) = ints k (l.set i z) := by
  simp only [ints]
  rw [List.map_set]

end Go.Proofs.Yteabcdmgklhijaa
