/- Several bytes read, and back if one fails. -/
import Derived.Test.YteabcdmgklhijaaFn
namespace Go.Proofs.Yteabcdmgklhijaa
open Go.RowKit
set_option linter.unusedSimpArgs false
set_option linter.unusedVariables false

theorem getV8 (l : List Int) (a : Nat) : 0 ≤ getV l a 8 ∧ getV l a 8 < 256 := by
  unfold getV
  split
  · have h := val_lt (bitsAt l a (8 : Int).toNat)
    have h2 : (bitsAt l a (8 : Int).toNat).length ≤ 8 := by simp [bitsAt]; omega
    have h3 : 2 ^ (bitsAt l a (8 : Int).toNat).length ≤ 2 ^ 8 := Nat.pow_le_pow_right (by decide) h2
    have h4 : (2 : Nat) ^ 8 = 256 := by decide
    omega
  · decide
end Go.Proofs.Yteabcdmgklhijaa
