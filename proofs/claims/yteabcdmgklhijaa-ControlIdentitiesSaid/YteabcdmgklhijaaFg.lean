/- The document's PutAll; the law's few and act. -/
import Derived.Test.YteabcdmgklhijaaFf
namespace Go.Proofs.Yteabcdmgklhijaa
open Go.RowKit
set_option linter.unusedSimpArgs false
set_option linter.unusedVariables false

theorem Rmono {f : FuncId} {args : Array Value} {w : World} {A B : Value → World → Prop} (h : Calls Try.prog f args w (SX.Ret A)) (hAB : ∀ v w', A v w' → B v w') : Calls Try.prog f args w (SX.Ret B) :=
  callsIn_wide.1 (CallsIn.mono (n := 0) (callsIn_wide.2 h) fun e w' ⟨v, he, hv⟩ => ⟨v, he, hAB v w' hv⟩)

/-- a row of bits -/
def rowB (sv : Value) (bs : List Bool) : SX.Ent := SX.Ent.row sv 5 1 bs.length (ints .u8 (bits bs))
theorem resA_one (bs : List Bool) (f : Int × Int) : resA bs [f] = if chkF f = 0 then bs ++ fldF f else bs := by
  unfold resA
  by_cases h : chkF f = 0 <;> simp [chkA, h]

end Go.Proofs.Yteabcdmgklhijaa
