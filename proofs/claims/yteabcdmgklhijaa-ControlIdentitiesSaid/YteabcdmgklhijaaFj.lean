/- The reader: Align, End. -/
import Derived.Test.YteabcdmgklhijaaFi
namespace Go.Proofs.Yteabcdmgklhijaa
open Go.RowKit
set_option linter.unusedSimpArgs false
set_option linter.unusedVariables false

/-- bits up to the next byte -/
def toByte (a : Nat) : Nat := (8 - a % 8) % 8
def alE (l : List Int) (a : Nat) : Int := if val (bitsAt l a (toByte a)) = 0 then 0 else 9
def alA (l : List Int) (a : Nat) : Nat := if val (bitsAt l a (toByte a)) = 0 then a + toByte a else a
def endE (l : List Int) (a : Nat) : Int := if 8 ≤ 8 * l.length - a then 9 else alE l a
theorem getE_ok {l : List Int} {a : Nat} {n : Nat} (h : a + n ≤ 8 * l.length) (h2 : n ≤ 64) : getE l a (n : Int) = 0 := by
  unfold getE
  rw [if_neg (by omega), if_neg (by omega)]

theorem WrL_start {w0 w : World} {M : List Nat} {L : List SX.Ent} {g T : Nat} (hs : SX.St w0 M w (SX.Ent.blk g T #[.slice none 0 0, .int .i64 0] :: L)) : SX.St w0 M w (WrL g T (.slice none 0 0) [] ++ L) := by
  have h := hs.nil 5 1
  exact h.perm (List.Perm.swap _ _ _)

def b9 : List Bool := [true, false, true, false, false, false, false, false, true]
/-- a row of packed bits -/
def rowP (sv : Value) (bs : List Bool) : SX.Ent := SX.Ent.row sv 5 1 (pk bs).length (ints .u8 (pk bs))

end Go.Proofs.Yteabcdmgklhijaa
