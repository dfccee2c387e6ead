/- The law's few and act. -/
import Derived.Test.YteabcdmgklhijaaFg
namespace Go.Proofs.Yteabcdmgklhijaa
open Go.RowKit
set_option linter.unusedSimpArgs false
set_option linter.unusedVariables false

structure ActV where
  what : Int
  v : Int
  n : Int
  bA : Option Addr
  bc : Nat
  bl : List Int
  fA : Option Addr
  fc : Nat
  fl : List (Int × Int)
def encA (x : ActV) : List Value := [.int .i64 x.what, .int .u64 x.v, .int .i64 x.n, .slice x.bA x.bl.length x.bc, .slice x.fA x.fl.length x.fc]
theorem encA_length (x : ActV) : (encA x).length = 5 := rfl
structure GoodA (W : World) (x : ActV) : Prop where
  what : -9223372036854775808 ≤ x.what ∧ x.what ≤ 9223372036854775807
  vn : GoodF (x.v, x.n)
  bl : ∀ b ∈ x.bl, 0 ≤ b ∧ b < 256
  fl : ∀ f ∈ x.fl, GoodF f
  bs : Sl W x.bA (ints .u8 x.bl)
  fs : Sl W x.fA (x.fl.flatMap encF)
  b63 : x.bl.length ≤ maxLen
  f63 : x.fl.length ≤ maxLen
/-- the bits after a call -/
def actB (bs : List Bool) (x : ActV) : List Bool :=
  if x.what = 0 then resA bs [(x.v, x.n)] else if x.what = 1 then bs ++ unb x.bl else if x.what = 2 then resA bs x.fl else pad bs
def fewA (l : List ActV) : Bool := decide (l.length ≤ 40) && l.all fun x => decide (x.bl.length ≤ 40) && decide (x.fl.length ≤ 20)
theorem actB_length {bs : List Bool} {x : ActV} (h1 : x.bl.length ≤ 40) (h2 : x.fl.length ≤ 20) : (actB bs x).length ≤ bs.length + 1280 := by
  unfold actB
  split
  · have := resA_length (bs := bs) (fs := [(x.v, x.n)]); simp at this; omega
  · split
    · simp [unb_length]; omega
    · split
      · have := resA_length (bs := bs) (fs := x.fl); omega
      · rw [pad_length]; omega

/-- a writer and its bits -/
def WbL (g T : Nat) (sv : Value) (sb : Value) (bs : List Bool) : List SX.Ent := WrL g T sv bs ++ [rowB sb bs]

end Go.Proofs.Yteabcdmgklhijaa
