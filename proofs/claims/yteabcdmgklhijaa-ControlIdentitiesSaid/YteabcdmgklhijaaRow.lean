/- What every row needs. -/
import Derived.Test.YteabcdmgklhijaaRows
import Derived.Test.YteabcdmgklhijaaSxMore
import Derived.WalkKit
import Derived.ProofKit
import Derived.OpenShut
import Derived.ShutString
import Derived.ChangeOld
import Derived.Below
namespace Go.Proofs.Yteabcdmgklhijaa
open Go.ChangeShapes Go.WideShapes Go.ChangeAt Go.RowKit
theorem pown : ownKnob Try.prog.godebug = none := by kernel_rfl
theorem plaidOut : laidOutB Try.prog = true := by kernel_rfl
end Go.Proofs.Yteabcdmgklhijaa
