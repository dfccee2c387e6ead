/- The document's Unpack, Put, PutBytes, PutAll, Align, Bytes. -/
import Derived.Test.YteabcdmgklhijaaFd
namespace Go.Proofs.Yteabcdmgklhijaa
open Go.RowKit
set_option linter.unusedSimpArgs false
set_option linter.unusedVariables false

/-- the bits of bytes -/
def unb (l : List Int) : List Bool := l.flatMap fun x => fld x.toNat 8
theorem unb_length (l : List Int) : (unb l).length = l.length * 8 := Z.flat_length (fun x => fld_length _ 8)
theorem unb_get {l : List Int} {k : Nat} (hk : k < l.length * 8) : (unb l)[k]? = some ((elt l ((k : Int) / 8)).toNat.testBit (7 - k % 8)) := by
  have h1 : k / 8 < l.length := by omega
  have hx : l[k / 8]? = some (l[k / 8]) := List.getElem?_eq_getElem h1
  have := Z.flat_get (enc := fun x : Int => fld x.toNat 8) (s := 8) (fun x => fld_length _ 8) hx (j := k % 8) (by omega)
  rw [show k / 8 * 8 + k % 8 = k from by omega, fld_get _ 8 _ (by omega)] at this
  unfold unb
  rw [this]
  have e : elt l ((k : Int) / 8) = l[k / 8] := by
    have e1 : ((k : Int) / 8).toNat = k / 8 := by omega
    simp [elt, e1, h1]
  rw [e]
theorem rem_bit (x : Int) (k : Nat) (h0 : 0 ≤ x) (hx : x < 256) : (x.fdiv (2 ^ (min ((7 : Int) - (k : Int) % 8).toNat IntKind.u8.bits))).tmod 2 = bi (x.toNat.testBit (7 - k % 8)) := by
  obtain ⟨n, rfl⟩ := Int.eq_ofNat_of_zero_le h0
  have e : min ((7 : Int) - (k : Int) % 8).toNat IntKind.u8.bits = 7 - k % 8 := by
    have : IntKind.u8.bits = 8 := rfl
    omega
  rw [e, Int.fdiv_eq_ediv_of_nonneg _ (Int.le_of_lt (Int.pow_pos (by decide))), testBit_bi, Int.toNat_natCast]
  have e2 : ((n : Int) / 2 ^ (7 - k % 8)) = ((n / 2 ^ (7 - k % 8) : Nat) : Int) := by push_cast; rfl
  rw [e2, Z.tmodn (Int.natCast_nonneg _)]
  omega
theorem bits_snoc (bs : List Bool) (b : Bool) : ints .u8 (bits bs) ++ [.int .u8 (bi b)] = ints .u8 (bits (bs ++ [b])) := by simp [ints, bits]
theorem bits_app (bs cs : List Bool) : ints .u8 (bits bs) ++ ints .u8 (bits cs) = ints .u8 (bits (bs ++ cs)) := by simp [ints, bits]

/-- bits up to a whole number of bytes -/
def pad (bs : List Bool) : List Bool := bs ++ List.replicate ((8 - bs.length % 8) % 8) false
theorem pad_length (bs : List Bool) : (pad bs).length = (bs.length + 7) / 8 * 8 := by simp [pad]; omega

end Go.Proofs.Yteabcdmgklhijaa
