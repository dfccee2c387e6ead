/- Bits, fields and bytes: plain facts. -/
import Derived.Test.YteabcdmgklhijaaZt
namespace Go.Proofs.Yteabcdmgklhijaa
set_option linter.unusedVariables false
set_option linter.unusedSimpArgs false

def bi (b : Bool) : Int := if b then 1 else 0
def bits (bs : List Bool) : List Int := bs.map bi
def bt (bs : List Bool) (i : Nat) : Bool := bs.getD i false
def bn (bs : List Bool) (i : Nat) : Nat := (bt bs i).toNat
/-- byte j of packed bits -/
def byt (bs : List Bool) (j : Nat) : Nat := 128 * bn bs (8 * j) + 64 * bn bs (8 * j + 1) + 32 * bn bs (8 * j + 2) + 16 * bn bs (8 * j + 3) + 8 * bn bs (8 * j + 4) + 4 * bn bs (8 * j + 5) + 2 * bn bs (8 * j + 6) + bn bs (8 * j + 7)
def pkn (bs : List Bool) (m : Nat) : List Int := (List.range m).map fun j => (byt bs j : Int)
/-- packed bits -/
def pk (bs : List Bool) : List Int := pkn bs ((bs.length + 7) / 8)

theorem bn_le (bs : List Bool) (i : Nat) : bn bs i ≤ 1 := by unfold bn; cases bt bs i <;> simp
theorem byt_lt (bs : List Bool) (j : Nat) : byt bs j < 256 := by
  have h := bn_le bs
  have h0 := h (8 * j); have h1 := h (8 * j + 1); have h2 := h (8 * j + 2); have h3 := h (8 * j + 3)
  have h4 := h (8 * j + 4); have h5 := h (8 * j + 5); have h6 := h (8 * j + 6); have h7 := h (8 * j + 7)
  unfold byt
  omega
theorem bn_out {bs : List Bool} {i : Nat} (h : bs.length ≤ i) : bn bs i = 0 := by
  unfold bn bt
  rw [List.getD_eq_getElem?_getD, List.getElem?_eq_none h]
  rfl
theorem bn_app_lt {bs cs : List Bool} {i : Nat} (h : i < bs.length) : bn (bs ++ cs) i = bn bs i := by
  unfold bn bt
  rw [List.getD_eq_getElem?_getD, List.getD_eq_getElem?_getD, List.getElem?_append_left h]
theorem bn_app_ge {bs cs : List Bool} {i : Nat} : bn (bs ++ cs) (bs.length + i) = bn cs i := by
  unfold bn bt
  rw [List.getD_eq_getElem?_getD, List.getD_eq_getElem?_getD, List.getElem?_append_right (by omega)]
  congr 3
  omega
theorem bn_snoc {bs : List Bool} {b : Bool} {i : Nat} : bn (bs ++ [b]) i = if i = bs.length then b.toNat else bn bs i := by
  by_cases h : i < bs.length
  · rw [bn_app_lt h, if_neg (by omega)]
  · by_cases h2 : i = bs.length
    · subst h2
      rw [if_pos rfl]
      have := bn_app_ge (bs := bs) (cs := [b]) (i := 0)
      rw [Nat.add_zero] at this
      rw [this]
      rfl
    · rw [if_neg h2, bn_out (by simp; omega), bn_out (by omega)]
@[simp] theorem pkn_length (bs : List Bool) (m : Nat) : (pkn bs m).length = m := by simp [pkn]
theorem pk_length (bs : List Bool) : (pk bs).length = (bs.length + 7) / 8 := by simp [pk, pkn_length]
@[simp] theorem bits_length (bs : List Bool) : (bits bs).length = bs.length := by simp [bits]

/-- byte q, where the next bit goes -/
theorem byt_snoc_ne {bs : List Bool} {b : Bool} {j : Nat} (h : j ≠ bs.length / 8) : byt (bs ++ [b]) j = byt bs j := by
  have e : ∀ i, 8 * j ≤ i → i < 8 * j + 8 → bn (bs ++ [b]) i = bn bs i := fun i h1 h2 => by
    rw [bn_snoc, if_neg (by omega)]
  unfold byt
  rw [e (8 * j) (by omega) (by omega), e (8 * j + 1) (by omega) (by omega), e (8 * j + 2) (by omega) (by omega), e (8 * j + 3) (by omega) (by omega),
    e (8 * j + 4) (by omega) (by omega), e (8 * j + 5) (by omega) (by omega), e (8 * j + 6) (by omega) (by omega), e (8 * j + 7) (by omega) (by omega)]
theorem byt_snoc {bs : List Bool} {b : Bool} : byt (bs ++ [b]) (bs.length / 8) = byt bs (bs.length / 8) + b.toNat * 2 ^ (7 - bs.length % 8) ∧ 2 ^ (8 - bs.length % 8) ∣ byt bs (bs.length / 8) := by
  obtain ⟨q, r, hr, hl⟩ : ∃ q r, r < 8 ∧ bs.length = 8 * q + r := ⟨bs.length / 8, bs.length % 8, by omega, by omega⟩
  have e1 : bs.length / 8 = q := by omega
  have e2 : bs.length % 8 = r := by omega
  rw [e1, e2]
  have hb : b.toNat ≤ 1 := by cases b <;> simp
  have hs : ∀ i, bn (bs ++ [b]) i = if i = 8 * q + r then b.toNat else bn bs i := fun i => by rw [bn_snoc, hl]
  have ho : ∀ i, 8 * q + r ≤ i → bn bs i = 0 := fun i hi => bn_out (by omega)
  unfold byt
  have h8 : r = 0 ∨ r = 1 ∨ r = 2 ∨ r = 3 ∨ r = 4 ∨ r = 5 ∨ r = 6 ∨ r = 7 := by omega
  rcases h8 with rfl | rfl | rfl | rfl | rfl | rfl | rfl | rfl <;> simp only [hs] <;> (refine ⟨?_, ?_⟩)
  all_goals first
    | (simp; simp [ho]; omega)
    | (simp [ho]; done)
    | (simp [ho]; omega)
    | skip

theorem pkn_set {bs : List Bool} {b : Bool} {m : Nat} (hm : bs.length / 8 < m) : (pkn bs m).set (bs.length / 8) ((byt (bs ++ [b]) (bs.length / 8) : Nat) : Int) = pkn (bs ++ [b]) m := by
  apply List.ext_getElem?
  intro i
  simp only [pkn, List.getElem?_set, List.length_map, List.length_range, List.getElem?_map]
  by_cases h : bs.length / 8 = i
  · subst h
    simp [hm]
  · rw [if_neg h]
    by_cases hi : i < m
    · rw [List.getElem?_range hi]
      simp only [Option.map_some]
      rw [byt_snoc_ne (Ne.symm h)]
    · rw [List.getElem?_eq_none (by simpa using hi)]
      rfl
theorem byt_out {bs : List Bool} {j : Nat} (h : bs.length ≤ 8 * j) : byt bs j = 0 := by
  unfold byt
  rw [bn_out h, bn_out (by omega), bn_out (by omega), bn_out (by omega), bn_out (by omega), bn_out (by omega), bn_out (by omega), bn_out (by omega)]
theorem pkn_succ (bs : List Bool) (m : Nat) : pkn bs (m + 1) = pkn bs m ++ [(byt bs m : Int)] := by simp [pkn, List.range_succ]
/-- where a byte begins -/
theorem pk_grow {bs : List Bool} (h : bs.length % 8 = 0) : pk bs ++ [0] = pkn bs (bs.length / 8 + 1) := by
  unfold pk
  rw [show (bs.length + 7) / 8 = bs.length / 8 from by omega, pkn_succ, byt_out (by omega)]
  rfl
theorem pk_same {bs : List Bool} (h : bs.length % 8 ≠ 0) : pk bs = pkn bs (bs.length / 8 + 1) := by
  unfold pk
  rw [show (bs.length + 7) / 8 = bs.length / 8 + 1 from by omega]
theorem pk_snoc {bs : List Bool} {b : Bool} : (pkn bs (bs.length / 8 + 1)).set (bs.length / 8) ((byt (bs ++ [b]) (bs.length / 8) : Nat) : Int) = pk (bs ++ [b]) := by
  rw [pkn_set (by omega)]
  unfold pk
  congr 1
  simp
  omega

theorem u8_or (x y : Nat) (i m : Nat) (hx : x = 2 ^ i * m) (hy : y < 2 ^ i) (h : x + y < 256) : IntKind.u8.wrap ((BitVec.ofInt 8 (x : Int) ||| BitVec.ofInt 8 (y : Int)).toNat : Int) = ((x + y : Nat) : Int) := by
  have e1 : (BitVec.ofInt 8 (x : Int)).toNat = x := by rw [BitVec.ofInt_natCast, BitVec.toNat_ofNat]; exact Nat.mod_eq_of_lt (by omega)
  have e2 : (BitVec.ofInt 8 (y : Int)).toNat = y := by rw [BitVec.ofInt_natCast, BitVec.toNat_ofNat]; exact Nat.mod_eq_of_lt (by omega)
  rw [BitVec.toNat_or, e1, e2, hx, ← Nat.two_pow_add_eq_or_of_lt hy, ← hx]
  exact Z.wu8 (by omega)
theorem bi_nat (b : Bool) : bi b = (b.toNat : Int) := by cases b <;> rfl
theorem bi_bd (b : Bool) : 0 ≤ bi b ∧ bi b ≤ 1 := by cases b <;> simp [bi]
/-- the or of a byte with its next bit -/
theorem or_byt (bs : List Bool) (b : Bool) : IntKind.u8.wrap ((BitVec.ofInt IntKind.u8.bits (byt bs (bs.length / 8) : Int) ||| BitVec.ofInt IntKind.u8.bits (bi b * 2 ^ (7 - bs.length % 8))).toNat : Int) = (byt (bs ++ [b]) (bs.length / 8) : Int) := by
  obtain ⟨h1, m, h2⟩ := byt_snoc (bs := bs) (b := b)
  have h3 := byt_lt (bs ++ [b]) (bs.length / 8)
  have hr : bs.length % 8 < 8 := Nat.mod_lt _ (by decide)
  have e : bi b * 2 ^ (7 - bs.length % 8) = ((b.toNat * 2 ^ (7 - bs.length % 8) : Nat) : Int) := by rw [bi_nat]; push_cast; rfl
  rw [e, h1]
  refine u8_or _ _ (8 - bs.length % 8) m h2 ?_ (by omega)
  have hb : b.toNat ≤ 1 := by cases b <;> simp
  have hp : 2 ^ (8 - bs.length % 8) = 2 * 2 ^ (7 - bs.length % 8) := by
    rw [show 8 - bs.length % 8 = (7 - bs.length % 8) + 1 from by omega, Nat.pow_succ, Nat.mul_comm]
  have hpos : 0 < 2 ^ (7 - bs.length % 8) := Nat.pow_pos (by decide)
  have := Nat.mul_le_mul_right (2 ^ (7 - bs.length % 8)) hb
  omega

/-- the bits of a field -/
def fld (v : Nat) : Nat → List Bool
  | 0 => []
  | w + 1 => v.testBit w :: fld v w
theorem fld_length (v : Nat) : ∀ w, (fld v w).length = w
  | 0 => rfl
  | w + 1 => by simp [fld, fld_length v w]
theorem fld_get (v : Nat) : ∀ (w i : Nat), i < w → (fld v w)[i]? = some (v.testBit (w - 1 - i))
  | 0, i, h => by omega
  | w + 1, 0, h => by simp [fld]
  | w + 1, i + 1, h => by
    have := fld_get v w i (by omega)
    simp only [fld, List.getElem?_cons_succ, this]
    congr 2
    omega
theorem testBit_bi (v i : Nat) : bi (v.testBit i) = ((v / 2 ^ i % 2 : Nat) : Int) := by
  rw [Nat.testBit_eq_decide_div_mod_eq]
  have : v / 2 ^ i % 2 = 0 ∨ v / 2 ^ i % 2 = 1 := by omega
  rcases this with h | h <;> simp [bi, h]
end Go.Proofs.Yteabcdmgklhijaa
