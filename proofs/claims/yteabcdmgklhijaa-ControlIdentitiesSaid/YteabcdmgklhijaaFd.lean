/- The document's FromUint, Pack, Unpack. -/
import Derived.Test.YteabcdmgklhijaaFc
namespace Go.Proofs.Yteabcdmgklhijaa
open Go.RowKit
set_option linter.unusedSimpArgs false
set_option linter.unusedVariables false

def outj (v n j : Nat) : List Int := (List.range n).map fun i => if n - j ≤ i then bi (v.testBit (n - 1 - i)) else 0
@[simp] theorem outj_length (v n j : Nat) : (outj v n j).length = n := by simp [outj]
theorem outj_zero (v n : Nat) : ints .u8 (outj v n 0) = List.replicate n (.int .u8 0) := by
  apply List.ext_getElem?
  intro i
  simp only [ints, outj, List.map_map, List.getElem?_map, List.getElem?_replicate]
  by_cases h : i < n
  · rw [List.getElem?_range h]
    simp [h]
    intro h2
    omega
  · rw [List.getElem?_eq_none (by simpa using h)]
    simp [h]
theorem outj_full (v n : Nat) : outj v n n = bits (fld v n) := by
  apply List.ext_getElem?
  intro i
  simp only [outj, bits, List.getElem?_map]
  by_cases h : i < n
  · rw [List.getElem?_range h, fld_get v n i h]
    simp
  · rw [List.getElem?_eq_none (by simpa using h), List.getElem?_eq_none (by rw [fld_length]; omega)]
    rfl
theorem outj_succ (v n j : Nat) (h : j < n) : (ints .u8 (outj v n j)).set (((n : Int) - 1 - (j : Int)).toNat * 1) (.int .u8 (bi (v.testBit j))) = ints .u8 (outj v n (j + 1)) := by
  have e : (((n : Int) - 1 - (j : Int)).toNat * 1) = n - 1 - j := by omega
  rw [e]
  apply List.ext_getElem?
  intro i
  simp only [ints, outj, List.getElem?_set, List.length_map, List.length_range, List.getElem?_map]
  by_cases hi : n - 1 - j = i
  · subst hi
    have h1 : n - 1 - j < n := by omega
    rw [if_pos rfl, if_pos h1, List.getElem?_range h1]
    simp only [Option.map_some]
    rw [if_pos (by omega), show n - 1 - (n - 1 - j) = j from by omega]
  · rw [if_neg hi]
    by_cases h2 : i < n
    · rw [List.getElem?_range h2]
      simp only [Option.map_some]
      congr 2
      by_cases h3 : n - j ≤ i
      · rw [if_pos h3, if_pos (by omega)]
      · rw [if_neg h3, if_neg (by omega)]
    · rw [List.getElem?_eq_none (by simpa using h2)]
      rfl
theorem conv_bit (v j : Nat) : IntKind.u8.wrap (((v / 2 ^ j : Nat) : Int) % 2) = bi (v.testBit j) := by
  rw [testBit_bi]
  have : (((v / 2 ^ j : Nat) : Int) % 2) = ((v / 2 ^ j % 2 : Nat) : Int) := by omega
  rw [this]
  exact Z.wu8 (by omega)
theorem half (v j : Nat) (hv : v < 18446744073709551616) : IntKind.u64.wrap (((v / 2 ^ j : Nat) : Int).tdiv 2) = ((v / 2 ^ (j + 1) : Nat) : Int) := by
  have h1 : v / 2 ^ j ≤ v := Nat.div_le_self _ _
  rw [Nat.pow_succ, ← Nat.div_div_eq_div_mul]
  generalize v / 2 ^ j = q at *
  rw [Z.qu64 (by omega) (by omega)]
  omega

theorem pkn_false {bs : List Bool} {m : Nat} (h : bs.length / 8 < m) : pkn (bs ++ [false]) m = pkn bs m := by
  rw [← pkn_set (b := false) h]
  have e := (byt_snoc (bs := bs) (b := false)).1
  simp at e
  rw [e]
  apply List.ext_getElem?
  intro i
  simp only [pkn, List.getElem?_set, List.length_map, List.length_range, List.getElem?_map]
  by_cases hi : bs.length / 8 = i
  · subst hi
    rw [if_pos rfl, if_pos h, List.getElem?_range h]
    rfl
  · rw [if_neg hi]
theorem pkn_nil (m : Nat) : ints .u8 (pkn [] m) = List.replicate m (.int .u8 0) := by
  apply List.ext_getElem?
  intro i
  simp only [ints, pkn, List.map_map, List.getElem?_map, List.getElem?_replicate]
  by_cases h : i < m
  · rw [List.getElem?_range h]
    simp [h, byt_out]
  · rw [List.getElem?_eq_none (by simpa using h)]
    simp [h]
theorem take_bt {bs : List Bool} {k : Nat} (h : k < bs.length) : bs.take (k + 1) = bs.take k ++ [bt bs k] := by
  rw [List.take_succ_eq_append_getElem h]
  simp [bt, h]
theorem shl_one (r : Nat) (hr : r < 8) : IntKind.u8.wrap (1 * 2 ^ (min ((7 : Int) - (r : Int)).toNat IntKind.u8.bits)) = ((2 ^ (7 - r) : Nat) : Int) := by
  have h8 : r = 0 ∨ r = 1 ∨ r = 2 ∨ r = 3 ∨ r = 4 ∨ r = 5 ∨ r = 6 ∨ r = 7 := by omega
  rcases h8 with rfl | rfl | rfl | rfl | rfl | rfl | rfl | rfl <;> decide
theorem add_byt {bs : List Bool} {k : Nat} (hk : k = bs.length) : IntKind.u8.wrap ((byt bs (k / 8) : Int) + ((2 ^ (7 - k % 8) : Nat) : Int)) = ((byt (bs ++ [true]) (k / 8) : Nat) : Int) := by
  subst hk
  have h1 := (byt_snoc (bs := bs) (b := true)).1
  have h2 := byt_lt (bs ++ [true]) (bs.length / 8)
  simp only [Bool.toNat_true, Nat.one_mul] at h1
  rw [← Int.natCast_add, ← h1]
  exact Z.wu8 (by omega)

end Go.Proofs.Yteabcdmgklhijaa
