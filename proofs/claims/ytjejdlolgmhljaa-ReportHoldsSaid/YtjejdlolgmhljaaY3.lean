/- Part 3 of the proofs that lead to the statement. -/
import Derived.Test.YtjejdlolgmhljaaY2
import Derived.Test.YtjejdlolgmhljaaRows
import Derived.ProofKit
import Derived.OpenShut
import Derived.ShutString
import Derived.ChangeOld
import Derived.Below
/- Bits, fields and bytes: plain facts. -/
namespace Go.Proofs.Ytjejdlolgmhljaa
set_option linter.unusedVariables false
set_option linter.unusedSimpArgs false

def bi (b : Bool) : Int := if b then 1 else 0
def bits (bs : List Bool) : List Int := bs.map bi
def bt (bs : List Bool) (i : Nat) : Bool := bs.getD i false
def bn (bs : List Bool) (i : Nat) : Nat := (bt bs i).toNat
/-- byte j of packed bits -/
def byt (bs : List Bool) (j : Nat) : Nat := 128 * bn bs (8 * j) + 64 * bn bs (8 * j + 1) + 32 * bn bs (8 * j + 2) + 16 * bn bs (8 * j + 3) + 8 * bn bs (8 * j + 4) + 4 * bn bs (8 * j + 5) + 2 * bn bs (8 * j + 6) + bn bs (8 * j + 7)
def pkn (bs : List Bool) (m : Nat) : List Int := (List.range m).map fun j => (byt bs j : Int)
/-- packed bits -/
def pk (bs : List Bool) : List Int := pkn bs ((bs.length + 7) / 8)

theorem bn_le (bs : List Bool) (i : Nat) : bn bs i ≤ 1 := by unfold bn; cases bt bs i <;> simp
theorem byt_lt (bs : List Bool) (j : Nat) : byt bs j < 256 := by
  have h := bn_le bs
  have h0 := h (8 * j); have h1 := h (8 * j + 1); have h2 := h (8 * j + 2); have h3 := h (8 * j + 3)
  have h4 := h (8 * j + 4); have h5 := h (8 * j + 5); have h6 := h (8 * j + 6); have h7 := h (8 * j + 7)
  unfold byt
  omega
theorem bn_out {bs : List Bool} {i : Nat} (h : bs.length ≤ i) : bn bs i = 0 := by
  unfold bn bt
  rw [List.getD_eq_getElem?_getD, List.getElem?_eq_none h]
  rfl
theorem bn_app_lt {bs cs : List Bool} {i : Nat} (h : i < bs.length) : bn (bs ++ cs) i = bn bs i := by
  unfold bn bt
  rw [List.getD_eq_getElem?_getD, List.getD_eq_getElem?_getD, List.getElem?_append_left h]
theorem bn_app_ge {bs cs : List Bool} {i : Nat} : bn (bs ++ cs) (bs.length + i) = bn cs i := by
  unfold bn bt
  rw [List.getD_eq_getElem?_getD, List.getD_eq_getElem?_getD, List.getElem?_append_right (by omega)]
  congr 3
  omega
theorem bn_snoc {bs : List Bool} {b : Bool} {i : Nat} : bn (bs ++ [b]) i = if i = bs.length then b.toNat else bn bs i := by
  by_cases h : i < bs.length
  · rw [bn_app_lt h, if_neg (by omega)]
  · by_cases h2 : i = bs.length
    · subst h2
      rw [if_pos rfl]
      have := bn_app_ge (bs := bs) (cs := [b]) (i := 0)
      rw [Nat.add_zero] at this
      rw [this]
      rfl
    · rw [if_neg h2, bn_out (by simp; omega), bn_out (by omega)]
@[simp] theorem pkn_length (bs : List Bool) (m : Nat) : (pkn bs m).length = m := by simp [pkn]
theorem pk_length (bs : List Bool) : (pk bs).length = (bs.length + 7) / 8 := by simp [pk, pkn_length]
@[simp] theorem bits_length (bs : List Bool) : (bits bs).length = bs.length := by simp [bits]

/-- byte q, where the next bit goes -/
theorem byt_snoc_ne {bs : List Bool} {b : Bool} {j : Nat} (h : j ≠ bs.length / 8) : byt (bs ++ [b]) j = byt bs j := by
  have e : ∀ i, 8 * j ≤ i → i < 8 * j + 8 → bn (bs ++ [b]) i = bn bs i := fun i h1 h2 => by
    rw [bn_snoc, if_neg (by omega)]
  unfold byt
  rw [e (8 * j) (by omega) (by omega), e (8 * j + 1) (by omega) (by omega), e (8 * j + 2) (by omega) (by omega), e (8 * j + 3) (by omega) (by omega),
    e (8 * j + 4) (by omega) (by omega), e (8 * j + 5) (by omega) (by omega), e (8 * j + 6) (by omega) (by omega), e (8 * j + 7) (by omega) (by omega)]
theorem byt_snoc {bs : List Bool} {b : Bool} : byt (bs ++ [b]) (bs.length / 8) = byt bs (bs.length / 8) + b.toNat * 2 ^ (7 - bs.length % 8) ∧ 2 ^ (8 - bs.length % 8) ∣ byt bs (bs.length / 8) := by
  obtain ⟨q, r, hr, hl⟩ : ∃ q r, r < 8 ∧ bs.length = 8 * q + r := ⟨bs.length / 8, bs.length % 8, by omega, by omega⟩
  have e1 : bs.length / 8 = q := by omega
  have e2 : bs.length % 8 = r := by omega
  rw [e1, e2]
  have hb : b.toNat ≤ 1 := by cases b <;> simp
  have hs : ∀ i, bn (bs ++ [b]) i = if i = 8 * q + r then b.toNat else bn bs i := fun i => by rw [bn_snoc, hl]
  have ho : ∀ i, 8 * q + r ≤ i → bn bs i = 0 := fun i hi => bn_out (by omega)
  unfold byt
  have h8 : r = 0 ∨ r = 1 ∨ r = 2 ∨ r = 3 ∨ r = 4 ∨ r = 5 ∨ r = 6 ∨ r = 7 := by omega
  rcases h8 with rfl | rfl | rfl | rfl | rfl | rfl | rfl | rfl <;> simp only [hs] <;> (refine ⟨?_, ?_⟩)
  all_goals first
    | (simp; simp [ho]; omega)
    | (simp [ho]; done)
    | (simp [ho]; omega)
    | skip

theorem pkn_set {bs : List Bool} {b : Bool} {m : Nat} (hm : bs.length / 8 < m) : (pkn bs m).set (bs.length / 8) ((byt (bs ++ [b]) (bs.length / 8) : Nat) : Int) = pkn (bs ++ [b]) m := by
  apply List.ext_getElem?
  intro i
  simp only [pkn, List.getElem?_set, List.length_map, List.length_range, List.getElem?_map]
  by_cases h : bs.length / 8 = i
  · subst h
    simp [hm]
  · rw [if_neg h]
    by_cases hi : i < m
    · rw [List.getElem?_range hi]
      simp only [Option.map_some]
      rw [byt_snoc_ne (Ne.symm h)]
    · rw [List.getElem?_eq_none (by simpa using hi)]
      rfl
theorem byt_out {bs : List Bool} {j : Nat} (h : bs.length ≤ 8 * j) : byt bs j = 0 := by
  unfold byt
  rw [bn_out h, bn_out (by omega), bn_out (by omega), bn_out (by omega), bn_out (by omega), bn_out (by omega), bn_out (by omega), bn_out (by omega)]
theorem pkn_succ (bs : List Bool) (m : Nat) : pkn bs (m + 1) = pkn bs m ++ [(byt bs m : Int)] := by simp [pkn, List.range_succ]
/-- where a byte begins -/
theorem pk_grow {bs : List Bool} (h : bs.length % 8 = 0) : pk bs ++ [0] = pkn bs (bs.length / 8 + 1) := by
  unfold pk
  rw [show (bs.length + 7) / 8 = bs.length / 8 from by omega, pkn_succ, byt_out (by omega)]
  rfl
theorem pk_same {bs : List Bool} (h : bs.length % 8 ≠ 0) : pk bs = pkn bs (bs.length / 8 + 1) := by
  unfold pk
  rw [show (bs.length + 7) / 8 = bs.length / 8 + 1 from by omega]
theorem pk_snoc {bs : List Bool} {b : Bool} : (pkn bs (bs.length / 8 + 1)).set (bs.length / 8) ((byt (bs ++ [b]) (bs.length / 8) : Nat) : Int) = pk (bs ++ [b]) := by
  rw [pkn_set (by omega)]
  unfold pk
  congr 1
  simp
  omega

theorem u8_or (x y : Nat) (i m : Nat) (hx : x = 2 ^ i * m) (hy : y < 2 ^ i) (h : x + y < 256) : IntKind.u8.wrap ((BitVec.ofInt 8 (x : Int) ||| BitVec.ofInt 8 (y : Int)).toNat : Int) = ((x + y : Nat) : Int) := by
  have e1 : (BitVec.ofInt 8 (x : Int)).toNat = x := by rw [BitVec.ofInt_natCast, BitVec.toNat_ofNat]; exact Nat.mod_eq_of_lt (by omega)
  have e2 : (BitVec.ofInt 8 (y : Int)).toNat = y := by rw [BitVec.ofInt_natCast, BitVec.toNat_ofNat]; exact Nat.mod_eq_of_lt (by omega)
  rw [BitVec.toNat_or, e1, e2, hx, ← Nat.two_pow_add_eq_or_of_lt hy, ← hx]
  exact Z.wu8 (by omega)
theorem bi_nat (b : Bool) : bi b = (b.toNat : Int) := by cases b <;> rfl
theorem bi_bd (b : Bool) : 0 ≤ bi b ∧ bi b ≤ 1 := by cases b <;> simp [bi]
/-- the or of a byte with its next bit -/
theorem or_byt (bs : List Bool) (b : Bool) : IntKind.u8.wrap ((BitVec.ofInt IntKind.u8.bits (byt bs (bs.length / 8) : Int) ||| BitVec.ofInt IntKind.u8.bits (bi b * 2 ^ (7 - bs.length % 8))).toNat : Int) = (byt (bs ++ [b]) (bs.length / 8) : Int) := by
  obtain ⟨h1, m, h2⟩ := byt_snoc (bs := bs) (b := b)
  have h3 := byt_lt (bs ++ [b]) (bs.length / 8)
  have hr : bs.length % 8 < 8 := Nat.mod_lt _ (by decide)
  have e : bi b * 2 ^ (7 - bs.length % 8) = ((b.toNat * 2 ^ (7 - bs.length % 8) : Nat) : Int) := by rw [bi_nat]; push_cast; rfl
  rw [e, h1]
  refine u8_or _ _ (8 - bs.length % 8) m h2 ?_ (by omega)
  have hb : b.toNat ≤ 1 := by cases b <;> simp
  have hp : 2 ^ (8 - bs.length % 8) = 2 * 2 ^ (7 - bs.length % 8) := by
    rw [show 8 - bs.length % 8 = (7 - bs.length % 8) + 1 from by omega, Nat.pow_succ, Nat.mul_comm]
  have hpos : 0 < 2 ^ (7 - bs.length % 8) := Nat.pow_pos (by decide)
  have := Nat.mul_le_mul_right (2 ^ (7 - bs.length % 8)) hb
  omega

/-- the bits of a field -/
def fld (v : Nat) : Nat → List Bool
  | 0 => []
  | w + 1 => v.testBit w :: fld v w
theorem fld_length (v : Nat) : ∀ w, (fld v w).length = w
  | 0 => rfl
  | w + 1 => by simp [fld, fld_length v w]
theorem fld_get (v : Nat) : ∀ (w i : Nat), i < w → (fld v w)[i]? = some (v.testBit (w - 1 - i))
  | 0, i, h => by omega
  | w + 1, 0, h => by simp [fld]
  | w + 1, i + 1, h => by
    have := fld_get v w i (by omega)
    simp only [fld, List.getElem?_cons_succ, this]
    congr 2
    omega
theorem testBit_bi (v i : Nat) : bi (v.testBit i) = ((v / 2 ^ i % 2 : Nat) : Int) := by
  rw [Nat.testBit_eq_decide_div_mod_eq]
  have : v / 2 ^ i % 2 = 0 ∨ v / 2 ^ i % 2 = 1 := by omega
  rcases this with h | h <;> simp [bi, h]
end Go.Proofs.Ytjejdlolgmhljaa

/- The writer: add. -/
namespace Go.Proofs.Ytjejdlolgmhljaa
open Go.RowKit
set_option linter.unusedSimpArgs false
set_option linter.unusedVariables false
theorem mixed : Try.prog.follows .mixedOrders = true := by kernel_rfl

/-- a writer at block g that holds the bits bs -/
def WrL (g T : Nat) (sv : Value) (bs : List Bool) : List SX.Ent := [SX.Ent.blk g T #[sv, .int .i64 (bs.length : Int)], SX.Ent.row sv 5 1 (pk bs).length (ints .u8 (pk bs))]

theorem elt_pkn {bs : List Bool} {m j : Nat} (h : j < m) : elt (pkn bs m) (j : Int) = (byt bs j : Int) := by
  simp [elt, pkn, h]
theorem pkn_at {bs : List Bool} {m j : Nat} {i : Int} (hi : i = (j : Int)) (h : j < m) : (ints .u8 (pkn bs m))[0 + i.toNat * 1]? = some (.int .u8 (byt bs j : Int)) := by
  subst hi
  have := Z.ints_at (k := .u8) (l := pkn bs m) (i := (j : Int)) (by omega) (by rw [pkn_length]; omega)
  rwa [elt_pkn h] at this
theorem shl_bit (b : Bool) (r : Nat) (hr : r < 8) : IntKind.u8.wrap (bi b * 2 ^ (min ((7 : Int) - (r : Int)).toNat IntKind.u8.bits)) = bi b * 2 ^ (7 - r) := by
  have h8 : r = 0 ∨ r = 1 ∨ r = 2 ∨ r = 3 ∨ r = 4 ∨ r = 5 ∨ r = 6 ∨ r = 7 := by omega
  rcases h8 with rfl | rfl | rfl | rfl | rfl | rfl | rfl | rfl <;> cases b <;> decide
theorem set_byt (bs : List Bool) (b : Bool) : (ints .u8 (pkn bs (bs.length / 8 + 1))).set (((bs.length : Int) / 8).toNat * 1) (.int .u8 (byt (bs ++ [b]) (bs.length / 8) : Nat)) = ints .u8 (pk (bs ++ [b])) := by
  have e : (((bs.length : Int) / 8).toNat * 1) = bs.length / 8 := by omega
  rw [e, ← pk_snoc]
  simp only [ints]
  rw [List.map_set]

set_option maxRecDepth 100000 in
theorem add_any (g T : Nat) (sv : Value) (bs : List Bool) (b : Bool) (w : World) (hs : SX.St w (SX.idsOf (WrL g T sv bs)) w (WrL g T sv bs)) (hb : bs.length ≤ 10000000) :
    Calls Try.prog 69 #[.pointer (some ⟨g, 0, none⟩), .int .u8 (bi b)] w (SX.Ret fun v w' => ∃ sv', v = .tuple #[] ∧ SX.St w (SX.idsOf (WrL g T sv bs)) w' (WrL g T sv' (bs ++ [b]))) := by
  have hpl : (pk bs).length ≤ 2000000 := by rw [pk_length]; omega
  have hbb := bi_bd b
  generalize SX.idsOf (WrL g T sv bs) = M at *
  simp only [WrL] at hs
  refine Z.enter Try.func69 rfl Try.ntmps69 rfl rfl ?_
  refine Z.seq ?_
  refine Z.seq ?_
  refine Z.region ?_
  refine Z.lb 1 rfl ?_
  refine Z.l rfl rfl (by rfl) (Z.keepS hs) (Z.Yd.nilc rfl rfl) ?_
  refine Z.l rfl rfl (by rfl) (Z.keepS hs) (Z.Yd.fieldA (m := 1) rfl (by kernel_rfl)) ?_
  refine Z.l rfl rfl (by rfl) (Z.keepS hs) (by first | exact Z.Yd.load rfl Try.isAgg3 (fun _ => Z.cellB (by first | ((repeat (first | exact List.mem_cons_self | refine List.mem_cons_of_mem _ ?_ | refine List.mem_append_right _ ?_)); done) | fail) rfl) | exact Z.Yd.load rfl Try.isAgg3 (fun _ => Z.cellO (by assumption) (by simp) (by assumption)) | fail "load 0.3") ?_
  refine Z.l rfl rfl (by rfl) (Z.keepS hs) (Z.Yd.rem rfl rfl (by intro hG; first | decide | omega) (by intro hG; first | exact Z.tmodn (by omega) | exact rfl)) ?_
  refine Z.lb 1 rfl ?_
  refine Z.lnil ?_
  refine Z.only [0, 1, 9] rfl ?_
  refine Z.nthen ?_
  refine Z.cutt (ι := Value) [0, 1] rfl (fun _ => []) (fun sv1 wr => SX.St w M wr [SX.Ent.blk g T #[sv1, .int .i64 (bs.length : Int)], SX.Ent.row sv1 5 1 (bs.length / 8 + 1) (ints .u8 (pkn bs (bs.length / 8 + 1)))]) ?_ ?_
  · skip
    refine Z.cond rfl (fun hc0 => ?_) (fun hc0 => ?_)
    · first
        | (exfalso; simp at hc0 <;> omega)
        | (
          (try simp at hc0)
          refine Z.region ?_
          refine Z.lb 2 rfl ?_
          refine Z.l rfl rfl (by rfl) (Z.keepS hs) (Z.Yd.nilc rfl rfl) ?_
          refine Z.l rfl rfl (by rfl) (Z.keepS hs) (Z.Yd.fieldA (m := 0) rfl (by kernel_rfl)) ?_
          refine Z.l rfl rfl (by rfl) (Z.keepS hs) (by first | exact Z.Yd.load rfl Try.isAgg49 (fun _ => Z.cellB (by first | ((repeat (first | exact List.mem_cons_self | refine List.mem_cons_of_mem _ ?_ | refine List.mem_append_right _ ?_)); done) | fail) rfl) | exact Z.Yd.load rfl Try.isAgg49 (fun _ => Z.cellO (by assumption) (by simp) (by assumption)) | fail "load 1.4") ?_
          refine Z.le rfl trivial ?_
          refine Z.ZO.lit rfl rfl (by rfl) rfl (by intro W; go_simp; exact rfl) hs ?_
          clear hs; intro g15 w15 hs
          refine Z.le rfl trivial ?_
          refine Z.ZO.append (i0 := Try.t5) (size := 1) (bytes := 1) rfl rfl (by rfl) hs Try.underlying49 (by kernel_rfl) rfl rfl rfl rfl (by decide) rfl rfl (by first | exact SX.at0 | exact SX.at1 | exact SX.at2 | exact SX.at3 | exact SX.at4 | exact SX.at5 | exact Z.at6 | exact Z.at7 | exact Z.at8 | exact Z.at9 | exact Z.at10 | exact Z.at11 | exact Z.at12) (by first | exact SX.at0 | exact SX.at1 | exact SX.at2 | exact SX.at3 | exact SX.at4 | exact SX.at5 | exact Z.at6 | exact Z.at7 | exact Z.at8 | exact Z.at9 | exact Z.at10 | exact Z.at11 | exact Z.at12) (by first | rfl | simp) (by simp [Value.oneCell']) (by decide) (by unfold maxLen; omega) (by omega) ?_
          clear hs; intro g16 cap16 w16 hs
          simp only [List.set_cons_zero, List.set_cons_succ, List.eraseIdx_cons_zero, List.eraseIdx_cons_succ] at hs
          refine Z.l rfl rfl (by rfl) (Z.keepS hs) (Z.Yd.nilc rfl rfl) ?_
          refine Z.l rfl rfl (by rfl) (Z.keepS hs) (Z.Yd.fieldA (m := 0) rfl (by kernel_rfl)) ?_
          refine Z.le rfl trivial ?_
          first | refine Z.ZO.store rfl rfl hs Try.sizeOf49 rfl rfl rfl (by first | exact SX.at0 | exact SX.at1 | exact SX.at2 | exact SX.at3 | exact SX.at4 | exact SX.at5 | exact Z.at6 | exact Z.at7 | exact Z.at8 | exact Z.at9 | exact Z.at10 | exact Z.at11 | exact Z.at12) (by first | (simp; done) | (simp; omega)) ?_ | refine Z.ZO.storeR rfl rfl hs Try.sizeOf49 rfl rfl rfl (by first | exact SX.at0 | exact SX.at1 | exact SX.at2 | exact SX.at3 | exact SX.at4 | exact SX.at5 | exact Z.at6 | exact Z.at7 | exact Z.at8 | exact Z.at9 | exact Z.at10 | exact Z.at11 | exact Z.at12) (by first | omega | (simp [ints_length]; done) | (simp [ints_length]; omega)) ?_
          clear hs; intro ws hs
          simp only [Nat.zero_add, Nat.add_zero, Nat.reduceAdd, Int.reduceToNat, Nat.reduceMul, List.set_cons_zero, List.set_cons_succ, List.setIfInBounds_toArray] at hs
          refine Z.lnil ?_
          refine Z.only [0, 1] rfl ?_
          refine Z.nthen ?_
          first
          | (have e := pk_same (bs := bs) (by omega)
             exact Z.meet _ (by refine ⟨?_, ?_, trivial⟩ <;> rfl) (by rw [e, pkn_length] at hs; exact hs))
          | (have e := pk_grow (bs := bs) (by omega)
             have e2 := pk_length bs
             rw [show (pk bs).length + 1 = bs.length / 8 + 1 from by omega] at hs
             have e3 : ints .u8 (pk bs) ++ [.int .u8 0] = ints .u8 (pkn bs (bs.length / 8 + 1)) := by rw [← e]; simp [ints]
             rw [e3] at hs
             exact Z.meet _ (by refine ⟨?_, ?_, trivial⟩ <;> rfl) hs)
          )
    · first
        | (exfalso; simp at hc0 <;> omega)
        | (
          (try simp at hc0)
          refine Z.skip ?_
          refine Z.nthen ?_
          first
          | (have e := pk_same (bs := bs) (by omega)
             exact Z.meet _ (by refine ⟨?_, ?_, trivial⟩ <;> rfl) (by rw [e, pkn_length] at hs; exact hs))
          | (have e := pk_grow (bs := bs) (by omega)
             have e2 := pk_length bs
             rw [show (pk bs).length + 1 = bs.length / 8 + 1 from by omega] at hs
             have e3 : ints .u8 (pk bs) ++ [.int .u8 0] = ints .u8 (pkn bs (bs.length / 8 + 1)) := by rw [← e]; simp [ints]
             rw [e3] at hs
             exact Z.meet _ (by refine ⟨?_, ?_, trivial⟩ <;> rfl) hs)
          )
  · clear hs
    rintro sv1 w1 hs
    refine Z.only [0, 1] rfl ?_
    obtain ⟨g1, cap1, rfl, hc1, hc2⟩ := row_form (j := 1) hs rfl (by omega)
    refine Z.seq ?_
    refine Z.drawK (fun j => j != 21) mixed hs ?_
    clear hs; intro wd2 hs
    refine Z.tb [0] (by kernel_rfl) rfl ⟨_, hs, by first | (simp; done) | exact fun e he => List.mem_append_right _ he⟩ rfl ?_
    refine Z.t 1 rfl rfl rfl (by rfl) (by kernel_rfl) ⟨_, hs, by first | (simp; done) | exact fun e he => List.mem_append_right _ he⟩ (Z.Yd.nilc rfl rfl) ?_
    refine Z.t 2 rfl rfl rfl (by rfl) (by kernel_rfl) ⟨_, hs, by first | (simp; done) | exact fun e he => List.mem_append_right _ he⟩ (Z.Yd.fieldA (m := 0) rfl (by kernel_rfl)) ?_
    refine Z.t 3 rfl rfl rfl (by rfl) (by kernel_rfl) ⟨_, hs, by first | (simp; done) | exact fun e he => List.mem_append_right _ he⟩ (by first | exact Z.Yd.load rfl Try.isAgg49 (fun _ => Z.cellB (by first | ((repeat (first | exact List.mem_cons_self | refine List.mem_cons_of_mem _ ?_ | refine List.mem_append_right _ ?_)); done) | fail) rfl) | exact Z.Yd.load rfl Try.isAgg49 (fun _ => Z.cellO (by assumption) (by simp) (by assumption)) | fail "load 2.3") ?_
    refine Z.tb [4] (by kernel_rfl) rfl ⟨_, hs, by first | (simp; done) | exact fun e he => List.mem_append_right _ he⟩ rfl ?_
    refine Z.t 5 rfl rfl rfl (by rfl) (by kernel_rfl) ⟨_, hs, by first | (simp; done) | exact fun e he => List.mem_append_right _ he⟩ (Z.Yd.nilc rfl rfl) ?_
    refine Z.t 6 rfl rfl rfl (by rfl) (by kernel_rfl) ⟨_, hs, by first | (simp; done) | exact fun e he => List.mem_append_right _ he⟩ (Z.Yd.fieldA (m := 1) rfl (by kernel_rfl)) ?_
    refine Z.t 7 rfl rfl rfl (by rfl) (by kernel_rfl) ⟨_, hs, by first | (simp; done) | exact fun e he => List.mem_append_right _ he⟩ (by first | exact Z.Yd.load rfl Try.isAgg3 (fun _ => Z.cellB (by first | ((repeat (first | exact List.mem_cons_self | refine List.mem_cons_of_mem _ ?_ | refine List.mem_append_right _ ?_)); done) | fail) rfl) | exact Z.Yd.load rfl Try.isAgg3 (fun _ => Z.cellO (by assumption) (by simp) (by assumption)) | fail "load 2.7") ?_
    refine Z.t 8 rfl rfl rfl (by rfl) (by kernel_rfl) ⟨_, hs, by first | (simp; done) | exact fun e he => List.mem_append_right _ he⟩ (Z.Yd.quo rfl rfl (by intro hG; first | decide | omega) (by intro hG; first | exact Z.qi64 ⟨by omega, by omega⟩ (by omega) | exact rfl)) ?_
    refine Z.t 9 rfl rfl rfl (by rfl) (by kernel_rfl) ⟨_, hs, by first | (simp; done) | exact fun e he => List.mem_append_right _ he⟩ (Z.Yd.elem rfl rfl Try.underlying49 Try.sizeOf5 (fun hG => ⟨(by first | omega | (have hG' := Z.gh rfl hG; simp at hG'; omega)), (by first | omega | (have hG' := Z.gh rfl hG; simp at hG'; omega))⟩)) ?_
    refine Z.t 10 rfl rfl rfl (by rfl) (by kernel_rfl) ⟨_, hs, by first | (simp; done) | exact fun e he => List.mem_append_right _ he⟩ (Z.Yd.load rfl Try.isAgg5 (fun _ => Z.cellR (by first | ((repeat (first | exact List.mem_cons_self | refine List.mem_cons_of_mem _ ?_ | refine List.mem_append_right _ ?_)); done) | fail) (pkn_at (j := bs.length / 8) (by omega) (by omega)))) ?_
    refine Z.tb [11, 12] (by kernel_rfl) rfl ⟨_, hs, by first | (simp; done) | exact fun e he => List.mem_append_right _ he⟩ rfl ?_
    refine Z.t 13 rfl rfl rfl (by rfl) (by kernel_rfl) ⟨_, hs, by first | (simp; done) | exact fun e he => List.mem_append_right _ he⟩ (Z.Yd.nilc rfl rfl) ?_
    refine Z.t 14 rfl rfl rfl (by rfl) (by kernel_rfl) ⟨_, hs, by first | (simp; done) | exact fun e he => List.mem_append_right _ he⟩ (Z.Yd.fieldA (m := 1) rfl (by kernel_rfl)) ?_
    refine Z.t 15 rfl rfl rfl (by rfl) (by kernel_rfl) ⟨_, hs, by first | (simp; done) | exact fun e he => List.mem_append_right _ he⟩ (by first | exact Z.Yd.load rfl Try.isAgg3 (fun _ => Z.cellB (by first | ((repeat (first | exact List.mem_cons_self | refine List.mem_cons_of_mem _ ?_ | refine List.mem_append_right _ ?_)); done) | fail) rfl) | exact Z.Yd.load rfl Try.isAgg3 (fun _ => Z.cellO (by assumption) (by simp) (by assumption)) | fail "load 2.15") ?_
    refine Z.t 16 rfl rfl rfl (by rfl) (by kernel_rfl) ⟨_, hs, by first | (simp; done) | exact fun e he => List.mem_append_right _ he⟩ (Z.Yd.rem rfl rfl (by intro hG; first | decide | omega) (by intro hG; first | exact Z.tmodn (by omega) | exact rfl)) ?_
    refine Z.t 17 rfl rfl rfl (by rfl) (by kernel_rfl) ⟨_, hs, by first | (simp; done) | exact fun e he => List.mem_append_right _ he⟩ (Z.Yd.sub rfl rfl (fun hG => Z.wi64 (by first | omega | (have hG' := Z.gh rfl hG; simp at hG'; omega)))) ?_
    refine Z.t 18 rfl rfl rfl (by rfl) (by kernel_rfl) ⟨_, hs, by first | (simp; done) | exact fun e he => List.mem_append_right _ he⟩ (Z.Yd.shl rfl rfl (by intro hG; first | decide | omega) (fun _ => shl_bit b (bs.length % 8) (by omega))) ?_
    refine Z.t 19 rfl rfl rfl (by rfl) (by kernel_rfl) ⟨_, hs, by first | (simp; done) | exact fun e he => List.mem_append_right _ he⟩ (Z.Yd.or rfl rfl (fun _ => or_byt bs b)) ?_
    refine Z.t 20 rfl rfl rfl (by rfl) (by kernel_rfl) ⟨_, hs, by first | (simp; done) | exact fun e he => List.mem_append_right _ he⟩ (Z.Yd.elem rfl rfl Try.underlying49 Try.sizeOf5 (fun hG => ⟨(by first | omega | (have hG' := Z.gh rfl hG; simp at hG'; omega)), (by first | omega | (have hG' := Z.gh rfl hG; simp at hG'; omega))⟩)) ?_
    refine Z.tn 21 rfl rfl (by kernel_rfl) rfl trivial ?_
    first | refine Z.ZO.store rfl rfl hs Try.sizeOf5 rfl rfl rfl (by first | exact SX.at0 | exact SX.at1 | exact SX.at2 | exact SX.at3 | exact SX.at4 | exact SX.at5 | exact Z.at6 | exact Z.at7 | exact Z.at8 | exact Z.at9 | exact Z.at10 | exact Z.at11 | exact Z.at12) (by first | (simp; done) | (simp; omega)) ?_ | refine Z.ZO.storeR rfl rfl hs Try.sizeOf5 rfl rfl rfl (by first | exact SX.at0 | exact SX.at1 | exact SX.at2 | exact SX.at3 | exact SX.at4 | exact SX.at5 | exact Z.at6 | exact Z.at7 | exact Z.at8 | exact Z.at9 | exact Z.at10 | exact Z.at11 | exact Z.at12) (by first | omega | (simp [ints_length]; done) | (simp [ints_length]; omega)) ?_
    clear hs; intro ws hs
    simp only [Nat.zero_add, Nat.add_zero, Nat.reduceAdd, Int.reduceToNat, Nat.reduceMul, List.set_cons_zero, List.set_cons_succ, List.setIfInBounds_toArray] at hs
    refine Z.tk (Dn := fun j => j != 21) (i := 21) (fun h => absurd h (by decide)) ?_
    refine Z.td (by rfl) (by kernel_rfl) ?_
    refine Z.only [0] rfl ?_
    rw [set_byt] at hs
    refine Z.nthen ?_
    refine Z.region ?_
    refine Z.lb 1 rfl ?_
    refine Z.l rfl rfl (by rfl) (Z.keepS hs) (Z.Yd.nilc rfl rfl) ?_
    refine Z.l rfl rfl (by rfl) (Z.keepS hs) (Z.Yd.fieldA (m := 1) rfl (by kernel_rfl)) ?_
    refine Z.l rfl rfl (by rfl) (Z.keepS hs) (by first | exact Z.Yd.load rfl Try.isAgg3 (fun _ => Z.cellB (by first | ((repeat (first | exact List.mem_cons_self | refine List.mem_cons_of_mem _ ?_ | refine List.mem_append_right _ ?_)); done) | fail) rfl) | exact Z.Yd.load rfl Try.isAgg3 (fun _ => Z.cellO (by assumption) (by simp) (by assumption)) | fail "load 3.3") ?_
    refine Z.l rfl rfl (by rfl) (Z.keepS hs) (Z.Yd.add rfl rfl (fun hG => Z.wi64 (by first | omega | (have hG' := Z.gh rfl hG; simp at hG'; omega)))) ?_
    refine Z.l rfl rfl (by rfl) (Z.keepS hs) (Z.Yd.nilc rfl rfl) ?_
    refine Z.l rfl rfl (by rfl) (Z.keepS hs) (Z.Yd.fieldA (m := 1) rfl (by kernel_rfl)) ?_
    refine Z.le rfl trivial ?_
    first | refine Z.ZO.store rfl rfl hs Try.sizeOf3 rfl rfl rfl (by first | exact SX.at0 | exact SX.at1 | exact SX.at2 | exact SX.at3 | exact SX.at4 | exact SX.at5 | exact Z.at6 | exact Z.at7 | exact Z.at8 | exact Z.at9 | exact Z.at10 | exact Z.at11 | exact Z.at12) (by first | (simp; done) | (simp; omega)) ?_ | refine Z.ZO.storeR rfl rfl hs Try.sizeOf3 rfl rfl rfl (by first | exact SX.at0 | exact SX.at1 | exact SX.at2 | exact SX.at3 | exact SX.at4 | exact SX.at5 | exact Z.at6 | exact Z.at7 | exact Z.at8 | exact Z.at9 | exact Z.at10 | exact Z.at11 | exact Z.at12) (by first | omega | (simp [ints_length]; done) | (simp [ints_length]; omega)) ?_
    clear hs; intro ws hs
    simp only [Nat.zero_add, Nat.add_zero, Nat.reduceAdd, Int.reduceToNat, Nat.reduceMul, List.set_cons_zero, List.set_cons_succ, List.setIfInBounds_toArray] at hs
    refine Z.lnil ?_
    refine Z.only [] rfl ?_
    -- ret#0
    refine Z.out0n trivial ?_
    refine ⟨_, rfl, .slice (some ⟨g1, 0, none⟩) (bs.length / 8 + 1) cap1, rfl, ?_⟩
    have e1 : (pk (bs ++ [b])).length = bs.length / 8 + 1 := by rw [pk_length]; simp; omega
    have e2 : ((bs ++ [b]).length : Int) = bs.length + 1 := by simp
    simp only [WrL, e1, e2]
    exact hs
end Go.Proofs.Ytjejdlolgmhljaa

/- The bits of a field, one by one; put. -/
namespace Go.Proofs.Ytjejdlolgmhljaa
open Go.RowKit
set_option linter.unusedSimpArgs false
set_option linter.unusedVariables false

theorem prefix_take {α : Type} {l : List α} {j : Nat} {x : α} (h : l[j]? = some x) : (l.take j ++ [x]) <+: l := by
  have hj : j < l.length := (List.getElem?_eq_some_iff.1 h).1
  have hx : l[j] = x := (List.getElem?_eq_some_iff.1 h).2
  rw [← hx, ← List.take_succ_eq_append_getElem hj]
  exact List.take_prefix _ _
theorem take_snoc {α : Type} {l : List α} {j : Nat} {x : α} (h : l[j]? = some x) : l.take j ++ [x] = l.take (j + 1) := by
  have hj : j < l.length := (List.getElem?_eq_some_iff.1 h).1
  have hx : l[j] = x := (List.getElem?_eq_some_iff.1 h).2
  rw [← hx, ← List.take_succ_eq_append_getElem hj]

theorem shr_at (v wd j : Nat) (hj : j < wd) (hw : wd ≤ 64) : (v : Int).fdiv (2 ^ (min ((wd : Int) - 1 - (j : Int)).toNat IntKind.u64.bits)) = ((v / 2 ^ (wd - 1 - j) : Nat) : Int) := by
  have e : min ((wd : Int) - 1 - (j : Int)).toNat IntKind.u64.bits = wd - 1 - j := by
    have : IntKind.u64.bits = 64 := rfl
    omega
  rw [e, Int.fdiv_eq_ediv_of_nonneg _ (Int.le_of_lt (Int.pow_pos (by decide)))]
  push_cast
  rfl
theorem and_one (v i : Nat) (hv : v < 18446744073709551616) : IntKind.u64.wrap ((BitVec.ofInt IntKind.u64.bits ((v / 2 ^ i : Nat) : Int) &&& BitVec.ofInt IntKind.u64.bits 1).toNat : Int) = bi (v.testBit i) := by
  have h1 : v / 2 ^ i < 18446744073709551616 := Nat.lt_of_le_of_lt (Nat.div_le_self _ _) hv
  have e1 : (BitVec.ofInt 64 ((v / 2 ^ i : Nat) : Int)).toNat = v / 2 ^ i := by rw [BitVec.ofInt_natCast, BitVec.toNat_ofNat]; exact Nat.mod_eq_of_lt (by omega)
  have e2 : (BitVec.ofInt 64 (1 : Int)).toNat = 1 := by decide
  have e3 : ((BitVec.ofInt 64 ((v / 2 ^ i : Nat) : Int)) &&& (BitVec.ofInt 64 (1 : Int))).toNat = v / 2 ^ i % 2 := by rw [BitVec.toNat_and, e1, e2, Nat.and_one_is_mod]
  show IntKind.u64.wrap (((BitVec.ofInt 64 ((v / 2 ^ i : Nat) : Int)) &&& (BitVec.ofInt 64 (1 : Int))).toNat : Int) = _
  rw [e3, testBit_bi]
  exact Z.wu64 (by omega)
theorem u8_bi (b : Bool) : IntKind.u8.wrap (bi b) = bi b := by cases b <;> decide
def BitA (b : Bool) (args : Array Value) (Lx : List SX.Ent) : Prop := args = #[.int .u8 (bi b)] ∧ Lx = []

set_option maxRecDepth 100000 in
theorem bits_seq (gv gw Tv Tw : Nat) (v wd : Nat) (hv : v < 18446744073709551616) (hw : wd ≤ 64) :
    SX.SeqC Try.prog 71 #[.pointer (some ⟨gw, 0, none⟩), .pointer (some ⟨gv, 0, none⟩)] BitA [SX.Ent.blk gw Tw #[.int .i64 (wd : Int)], SX.Ent.blk gv Tv #[.int .u64 (v : Int)]] (fun _ _ => True) (fld v wd) := by
  intro l w0 M I Ix W L0 _ hY hI hs
  have hfl := fld_length v wd
  refine Z.enter Try.func71 rfl Try.ntmps71 rfl rfl ?_
  refine Z.scope ?_
  refine Z.seq ?_
  refine Z.label ?_
  refine Z.nthen ?_
  refine Z.seq ?_
  refine Z.region ?_
  refine Z.l rfl rfl (by rfl) (Z.keepS hs) (by first | exact Z.Yd.load rfl Try.isAgg3 (fun _ => Z.cellB (by first | ((repeat (first | exact List.mem_cons_self | refine List.mem_cons_of_mem _ ?_ | refine List.mem_append_right _ ?_)); done) | fail) rfl) | exact Z.Yd.load rfl Try.isAgg3 (fun _ => Z.cellO (by assumption) (by simp) (by assumption)) | fail "load 0.0") ?_
  refine Z.l rfl rfl (by rfl) (Z.keepS hs) (Z.Yd.sub rfl rfl (fun hG => Z.wi64 (by first | omega | (have hG' := Z.gh rfl hG; simp at hG'; omega)))) ?_
  refine Z.lb 1 rfl ?_
  refine Z.lnil ?_
  refine Z.only [0, 2, 4] rfl ?_
  refine Z.nthen ?_
  refine Z.block ?_
  refine Z.loopk (ι := Nat × List SX.Ent) [0, 2] rfl (fun j => [(4, [], .int .i64 ((wd : Int) - 1 - (j.1 : Int)))]) (fun j wr => j.1 ≤ wd ∧ I ((fld v wd).take j.1) j.2 ∧ SX.St w0 M wr (j.2 ++ [SX.Ent.blk gw Tw #[.int .i64 (wd : Int)], SX.Ent.blk gv Tv #[.int .u64 (v : Int)]])) (fun j => wd - j.1) (0, L0) (by refine ⟨?_, trivial⟩ <;> (first | rfl | (refine Z.lookv rfl ?_; simp; done) | (refine Z.lookv rfl ?_; simp; omega))) ⟨by omega, hI, hs⟩ ?_
  clear hs
  rintro ⟨j, L1⟩ w1 ⟨hj, hi, hs⟩
  refine Z.only [0, 2, 4] rfl ?_
  (try dsimp only at hs)
  refine Z.seq ?_
  refine Z.seq ?_
  refine Z.region ?_
  refine Z.lb 2 rfl ?_
  refine Z.lnil ?_
  refine Z.only [0, 2, 4, 8] rfl ?_
  refine Z.nthen ?_
  refine Z.cond rfl (fun hc1 => ?_) (fun hc1 => ?_)
  · first
      | (exfalso; simp at hc1 <;> omega)
      | (
        (try simp at hc1)
        have hlt : j < wd := by omega
        have hg := fld_get v wd j hlt
        refine Z.skip ?_
        refine Z.nthen ?_
        refine Z.seq ?_
        refine Z.block ?_
        refine Z.seq ?_
        refine Z.region ?_
        refine Z.lb 1 rfl ?_
        refine Z.l rfl rfl (by rfl) (Z.keepS hs) (by first | exact Z.Yd.load rfl Try.isAgg86 (fun _ => Z.cellB (by first | ((repeat (first | exact List.mem_cons_self | refine List.mem_cons_of_mem _ ?_ | refine List.mem_append_right _ ?_)); done) | fail) rfl) | exact Z.Yd.load rfl Try.isAgg86 (fun _ => Z.cellO (by assumption) (by simp) (by assumption)) | fail "load 3.1") ?_
        refine Z.lb 1 rfl ?_
        refine Z.l rfl rfl (by rfl) (Z.keepS hs) (Z.Yd.shr rfl rfl (by intro hG; first | decide | omega) (fun _ => shr_at v wd j hlt hw)) ?_
        refine Z.l rfl rfl (by rfl) (Z.keepS hs) (Z.Yd.and rfl rfl (fun _ => and_one v (wd - 1 - j) hv)) ?_
        refine Z.l rfl rfl (by rfl) (Z.keepS hs) (Z.Yd.convI rfl ⟨_, Try.underlying86⟩ Try.underlying5 (fun _ => u8_bi _)) ?_
        refine Z.le rfl trivial ?_
        refine Z.ZO.yield rfl rfl (by rfl) rfl rfl rfl (hY _ ((fld v wd).take j) (v.testBit (wd - 1 - j)) _ _ L1 [] hi (prefix_take hg) ⟨rfl, rfl⟩ hs) ?_
        clear hs
        rintro e wy3_6 (⟨rfl, Ly3_6, hiy3_6, hs⟩ | ⟨rfl, Ly3_6, hiy3_6, hs⟩)
        · refine ⟨_, rfl, ?_⟩
          refine Z.lb 1 rfl ?_
          refine Z.lnil ?_
          refine Z.only [0, 2, 4, 18] rfl ?_
          refine Z.nthen ?_
          refine Z.cond rfl (fun hc3 => ?_) (fun hc3 => ?_)
          · first
              | (exfalso; simp at hc3 <;> omega)
              | (
                (try simp at hc3)
                refine Z.exit ?_
                refine Z.xblockn rfl ?_
                refine Z.xthen ?_
                refine Z.xthen ?_
                refine Z.xblock ?_
                refine Z.nscope ?_
                -- ret#0
                refine Z.out0n trivial ?_
                first
                | exact ⟨⟨_, rfl⟩, Ly3_6, .inr hiy3_6, hs⟩
                | exact ⟨⟨_, rfl⟩, L1, .inl (by rwa [List.take_of_length_le (by omega)] at hi), hs⟩
                )
          · first
              | (exfalso; simp at hc3 <;> omega)
              | (
                (try simp at hc3)
                refine Z.skip ?_
                refine Z.nblock ?_
                refine Z.nthen ?_
                refine Z.region ?_
                refine Z.lb 1 rfl ?_
                refine Z.l rfl rfl (by rfl) (Z.keepS hs) (Z.Yd.sub rfl rfl (fun hG => Z.wi64 (by first | omega | (have hG' := Z.gh rfl hG; simp at hG'; omega)))) ?_
                refine Z.lb 1 rfl ?_
                refine Z.lnil ?_
                refine Z.only [0, 2, 4] rfl ?_
                refine Z.nthen ?_
                exact Z.again (j + 1, Ly3_6) (by refine ⟨?_, ?_, ?_, trivial⟩ <;> (first | rfl | (refine Z.lookv rfl ?_; simp; done) | (refine Z.lookv rfl ?_; simp; omega))) ⟨by omega, by rw [← take_snoc hg]; exact hiy3_6, hs⟩ (by simp only; omega)
                )
        · refine ⟨_, rfl, ?_⟩
          refine Z.lb 1 rfl ?_
          refine Z.lnil ?_
          refine Z.only [0, 2, 4, 18] rfl ?_
          refine Z.nthen ?_
          refine Z.cond rfl (fun hc3 => ?_) (fun hc3 => ?_)
          · first
              | (exfalso; simp at hc3 <;> omega)
              | (
                (try simp at hc3)
                refine Z.exit ?_
                refine Z.xblockn rfl ?_
                refine Z.xthen ?_
                refine Z.xthen ?_
                refine Z.xblock ?_
                refine Z.nscope ?_
                -- ret#1
                refine Z.out0n trivial ?_
                first
                | exact ⟨⟨_, rfl⟩, Ly3_6, .inr hiy3_6, hs⟩
                | exact ⟨⟨_, rfl⟩, L1, .inl (by rwa [List.take_of_length_le (by omega)] at hi), hs⟩
                )
          · first
              | (exfalso; simp at hc3 <;> omega)
              | (
                (try simp at hc3)
                refine Z.skip ?_
                refine Z.nblock ?_
                refine Z.nthen ?_
                refine Z.region ?_
                refine Z.lb 1 rfl ?_
                refine Z.l rfl rfl (by rfl) (Z.keepS hs) (Z.Yd.sub rfl rfl (fun hG => Z.wi64 (by first | omega | (have hG' := Z.gh rfl hG; simp at hG'; omega)))) ?_
                refine Z.lb 1 rfl ?_
                refine Z.lnil ?_
                refine Z.only [0, 2, 4] rfl ?_
                refine Z.nthen ?_
                exact Z.again (j + 1, Ly3_6) (by refine ⟨?_, ?_, ?_, trivial⟩ <;> (first | rfl | (refine Z.lookv rfl ?_; simp; done) | (refine Z.lookv rfl ?_; simp; omega))) ⟨by omega, by rw [← take_snoc hg]; exact hiy3_6, hs⟩ (by simp only; omega)
                )
        )
  · first
      | (exfalso; simp at hc1 <;> omega)
      | (
        (try simp at hc1)
        refine Z.exit ?_
        refine Z.xthen ?_
        refine Z.xthen ?_
        refine Z.xblock ?_
        refine Z.nscope ?_
        -- ret#2
        refine Z.out0n trivial ?_
        first
        | exact ⟨⟨_, rfl⟩, Ly3_6, .inr hiy3_6, hs⟩
        | exact ⟨⟨_, rfl⟩, L1, .inl (by rwa [List.take_of_length_le (by omega)] at hi), hs⟩
        )

theorem bits_any (v wd : Nat) (w : World) :
    Calls Try.prog 68 #[.int .u64 (v : Int), .int .i64 (wd : Int)] w (SX.Ret fun r w' => ∃ gv gw, r = .func (.func 71) #[] #[.pointer (some ⟨gw, 0, none⟩), .pointer (some ⟨gv, 0, none⟩)] ∧
      SX.St w [] w' [SX.Ent.blk gw 3 #[.int .i64 (wd : Int)], SX.Ent.blk gv 86 #[.int .u64 (v : Int)]]) := by
  have hs := SX.St.start w
  refine Z.enter Try.func68 rfl Try.ntmps68 rfl rfl ?_
  refine Z.seq ?_
  refine Z.region ?_
  refine Z.le rfl trivial ?_
  refine Z.ZO.box rfl rfl (by rfl) rfl rfl hs ?_
  clear hs; intro g2 w2 hs
  refine Z.le rfl trivial ?_
  refine Z.ZO.box rfl rfl (by rfl) rfl rfl hs ?_
  clear hs; intro g3 w3 hs
  refine Z.lb 1 rfl ?_
  refine Z.lnil ?_
  refine Z.only [2, 3] rfl ?_
  refine Z.nthen ?_
  refine Z.seq ?_
  refine Z.region ?_
  refine Z.lb 2 rfl ?_
  refine Z.lnil ?_
  refine Z.only [4] rfl ?_
  refine Z.nthen ?_
  refine Z.ret ?_
  -- ret#0
  refine Z.out1 (by exact ⟨rfl, trivial⟩) ?_
  exact ⟨_, rfl, _, _, rfl, hs⟩

set_option maxRecDepth 100000 in
theorem put_any (g T : Nat) (sv : Value) (bs : List Bool) (v wd : Nat) (w : World) (hs : SX.St w (SX.idsOf (WrL g T sv bs)) w (WrL g T sv bs)) (hb : bs.length ≤ 9000000) (hv : v < 18446744073709551616) (hw : wd ≤ 64) :
    Calls Try.prog 64 #[.pointer (some ⟨g, 0, none⟩), .int .u64 (v : Int), .int .i64 (wd : Int)] w (SX.Ret fun r w' => ∃ sv', r = .tuple #[] ∧ SX.St w (SX.idsOf (WrL g T sv bs)) w' (WrL g T sv' (bs ++ fld v wd))) := by
  generalize hM : SX.idsOf (WrL g T sv bs) = M at *
  refine Z.enterM Try.func64 rfl Try.ntmps64 rfl rfl ?_
  refine Z.seq ?_
  refine Z.region ?_
  refine Z.le rfl trivial ?_
  refine Z.ZO.box rfl rfl (by rfl) rfl rfl hs ?_
  clear hs; intro g3 w3 hs
  refine Z.lnil ?_
  refine Z.only [1, 2, 3] rfl ?_
  refine Z.nthen ?_
  refine Z.seq ?_
  refine Z.region ?_
  refine Z.lb 2 rfl ?_
  refine Z.le rfl trivial ?_
  refine Z.ZO.call rfl rfl (by rfl) rfl rfl Try.call68 rfl (bits_any v wd _) ?_
  rintro v1_2 w1_2 ⟨gv, gw, rfl, hy⟩
  replace hs := hs.call hy
  clear hy
  try simp only [List.cons_append, List.nil_append, List.append_nil] at hs
  refine Z.lnil ?_
  refine Z.only [3, 9] rfl ?_
  refine Z.nthen ?_
  refine Z.block ?_
  refine Z.rangeFunc (ps := [10]) (L0 := SX.Ent.blk g3 114 #[.pointer (some ⟨g, 0, none⟩)] :: WrL g T sv bs) (bits_seq gv gw _ _ v wd hv hw) rfl Try.call71 (hs.rot (L1 := [_, _])) trivial (by rintro x args Lx ⟨rfl, rfl⟩; rfl) rfl (fun pre L => ∃ sv', L = SX.Ent.blk g3 114 #[.pointer (some ⟨g, 0, none⟩)] :: WrL g T sv' (bs ++ pre)) (fun _ _ => False) ⟨sv, by simp⟩ ?_ ?_ ?_
  · clear hs
    rintro l0 Z0 pre x args W0 L0 Lx ⟨sv', rfl⟩ hpre ⟨rfl, rfl⟩ hs
    refine ⟨_, rfl, ?_⟩
    refine Z.region ?_
    refine Z.lb 1 rfl ?_
    refine Z.lnil ?_
    refine Z.only [3, 6] rfl ?_
    refine Z.nthen ?_
    refine Z.assigned (SX.Ent.blk g3 114 #[.pointer (some ⟨g, 0, none⟩)] :: WrL g T sv' (bs ++ pre)) hs ?_
    clear hs
    intro Wb0 Zb0 hs
    refine Z.block ?_
    refine Z.region ?_
    refine Z.l rfl rfl (by rfl) (Z.keepS hs) (by first | exact Z.Yd.load rfl Try.isAgg114 (fun _ => Z.cellB (by first | ((repeat (first | exact List.mem_cons_self | refine List.mem_cons_of_mem _ ?_ | refine List.mem_append_right _ ?_)); done) | fail) rfl) | exact Z.Yd.load rfl Try.isAgg114 (fun _ => Z.cellO (by assumption) (by simp) (by assumption)) | fail "load 3.0") ?_
    refine Z.l rfl rfl (by rfl) (Z.keepS hs) (Z.Yd.nilc rfl rfl) ?_
    refine Z.l rfl rfl (by rfl) (Z.keepS hs) (Z.Yd.fieldA (m := 0) rfl (by kernel_rfl)) ?_
    refine Z.lb 1 rfl ?_
    have hpl := hpre.length_le
    have hfl := fld_length v wd
    simp only [List.length_append, List.length_cons, List.length_nil] at hpl
    replace hs := SX.St.unmid (L1 := WrL g T sv' (bs ++ pre)) hs
    refine Z.le rfl trivial ?_
    refine Z.ZO.call rfl rfl (by rfl) rfl rfl Try.call69 rfl (add_any g T sv' (bs ++ pre) x _ hs.lend (by simp; omega)) ?_
    rintro v3_4 w3_4 ⟨sv2, rfl, hz⟩
    replace hs := (hs.regain hz).mid
    refine Z.lnil ?_
    refine Z.only [] rfl ?_
    refine Z.nblock ?_
    exact Z.rnorm _ ⟨sv2, by rw [← List.append_assoc]⟩ hs
  · clear hs
    rintro Dd W0 L0 hi hs
    obtain ⟨sv', rfl⟩ := hi
    refine Z.nblock ?_
    -- ret#0
    refine Z.outM1n (vs := []) hs (fun wr hs => trivial) trivial ?_
    clear hs
    intro wr hs
    exact ⟨_, rfl, sv', rfl, hs.tl.sub (List.sublist_append_left _ _)⟩
  · clear hs
    rintro Dd c W0 L0 hi hs
    exact hi.elim
end Go.Proofs.Ytjejdlolgmhljaa

/- Copies of bytes; comparisons; the document's bits. -/
namespace Go.Proofs.Ytjejdlolgmhljaa
open Go.RowKit
set_option linter.unusedSimpArgs false
set_option linter.unusedVariables false

theorem clone8 (M : List Nat) (A : Option Addr) (n c : Nat) (l : List Int) (w : World) (hx : Sx w M A (ints .u8 l)) (hl : l.length = n) (hn : n ≤ 100000000) (hz : A = none → n = 0) :
    Calls Try.prog 65 #[.slice A n c] w (SX.Ret fun v w' => SX.St w [] w' [SX.Ent.row v 5 1 n (ints .u8 l)]) := by
  have hs := SX.St.start w
  cases A with
  | none =>
    obtain rfl := hz rfl
    have hl0 : l = [] := List.eq_nil_of_length_eq_zero hl
    subst hl0
    refine Z.enter Try.func65 rfl Try.ntmps65 rfl rfl ?_
    refine Z.seq ?_
    refine Z.region ?_
    refine Z.lb 1 rfl ?_
    refine Z.lnil ?_
    refine Z.only [0] rfl ?_
    refine Z.nthen ?_
    refine Z.seq ?_
    refine Z.seq ?_
    refine Z.region ?_
    refine Z.lb 1 rfl ?_
    refine Z.l rfl rfl (by rfl) (Z.keepS hs) (Z.Yd.sliceNil rfl rfl Try.underlying49) ?_
    refine Z.lnil ?_
    refine Z.only [0, 4] rfl ?_
    refine Z.nthen ?_
    refine Z.cond rfl (fun hc1 => ?_) (fun h => absurd h (by simp))
    refine Z.seq ?_
    refine Z.region ?_
    refine Z.lb 1 rfl ?_
    refine Z.lnil ?_
    refine Z.only [2] rfl ?_
    refine Z.nthen ?_
    refine Z.ret ?_
    repeat (first | refine Z.rthen ?_ | refine Z.rblock ?_ | refine Z.rscope ?_)
    -- ret#0
    refine Z.out1 (by exact ⟨rfl, trivial⟩) ?_
    exact ⟨_, rfl, hs.nil _ _⟩
  | some ad =>
    refine Z.enter Try.func65 rfl Try.ntmps65 rfl rfl ?_
    refine Z.seq ?_
    refine Z.region ?_
    refine Z.lb 1 rfl ?_
    refine Z.lnil ?_
    refine Z.only [0] rfl ?_
    refine Z.nthen ?_
    refine Z.seq ?_
    refine Z.seq ?_
    refine Z.region ?_
    refine Z.lb 1 rfl ?_
    refine Z.l rfl rfl (by rfl) (Z.keepS hs) (Z.Yd.sliceNil rfl rfl Try.underlying49) ?_
    refine Z.lnil ?_
    refine Z.only [0, 4] rfl ?_
    refine Z.nthen ?_
    refine Z.cond rfl (fun h => absurd h (by simp)) (fun hc1 => ?_)
    refine Z.skip ?_
    refine Z.nthen ?_
    refine Z.seq ?_
    refine Z.region ?_
    refine Z.le rfl trivial ?_
    refine Z.ZO.empty rfl rfl (by rfl) Try.underlying49 Try.sizeOf5 hs ?_
    clear hs; intro g5 w5 hs
    refine Z.lb 1 rfl ?_
    refine Z.le rfl trivial ?_
    refine Z.ZO.appendG (i0 := Try.t5) (size := 1) (bytes := 1) rfl rfl (by rfl) hs Try.underlying49 (by kernel_rfl) rfl rfl rfl rfl (by decide) rfl rfl (by first | exact SX.at0 | exact SX.at1 | exact SX.at2 | exact SX.at3 | exact SX.at4 | exact SX.at5 | exact Z.at6 | exact Z.at7 | exact Z.at8 | exact Z.at9 | exact Z.at10 | exact Z.at11 | exact Z.at12) (hx.sl.st hs) (by first | rfl | assumption | (simp [ints_length]; done) | (simp [ints_length]; omega)) (by first | exact Z.ints_one | assumption | simp [Value.oneCell']) (by unfold maxLen; omega) (by omega) ?_
    clear hs; intro v7 w7 hs
    simp only [List.set_cons_zero, List.set_cons_succ] at hs
    refine Z.lb 1 rfl ?_
    refine Z.lnil ?_
    refine Z.only [2] rfl ?_
    refine Z.nthen ?_
    refine Z.ret ?_
    -- ret#0
    refine Z.out1 (by exact ⟨rfl, trivial⟩) ?_
    exact ⟨_, rfl, by simpa using hs⟩

end Go.Proofs.Ytjejdlolgmhljaa

/- The document's FromUint, Pack, Unpack. -/
namespace Go.Proofs.Ytjejdlolgmhljaa
open Go.RowKit
set_option linter.unusedSimpArgs false
set_option linter.unusedVariables false

def outj (v n j : Nat) : List Int := (List.range n).map fun i => if n - j ≤ i then bi (v.testBit (n - 1 - i)) else 0
@[simp] theorem outj_length (v n j : Nat) : (outj v n j).length = n := by simp [outj]
end Go.Proofs.Ytjejdlolgmhljaa

/- The document's Unpack, Put, PutBytes, PutAll, Align, Bytes. -/
namespace Go.Proofs.Ytjejdlolgmhljaa
open Go.RowKit
set_option linter.unusedSimpArgs false
set_option linter.unusedVariables false

/-- the bits of bytes -/
def unb (l : List Int) : List Bool := l.flatMap fun x => fld x.toNat 8
theorem unb_length (l : List Int) : (unb l).length = l.length * 8 := Z.flat_length (fun x => fld_length _ 8)
theorem unb_get {l : List Int} {k : Nat} (hk : k < l.length * 8) : (unb l)[k]? = some ((elt l ((k : Int) / 8)).toNat.testBit (7 - k % 8)) := by
  have h1 : k / 8 < l.length := by omega
  have hx : l[k / 8]? = some (l[k / 8]) := List.getElem?_eq_getElem h1
  have := Z.flat_get (enc := fun x : Int => fld x.toNat 8) (s := 8) (fun x => fld_length _ 8) hx (j := k % 8) (by omega)
  rw [show k / 8 * 8 + k % 8 = k from by omega, fld_get _ 8 _ (by omega)] at this
  unfold unb
  rw [this]
  have e : elt l ((k : Int) / 8) = l[k / 8] := by
    have e1 : ((k : Int) / 8).toNat = k / 8 := by omega
    simp [elt, e1, h1]
  rw [e]
/-- bits up to a whole number of bytes -/
def pad (bs : List Bool) : List Bool := bs ++ List.replicate ((8 - bs.length % 8) % 8) false
theorem pad_length (bs : List Bool) : (pad bs).length = (bs.length + 7) / 8 * 8 := by simp [pad]; omega

end Go.Proofs.Ytjejdlolgmhljaa

/- The writer's calls and the document's PutAll. -/
namespace Go.Proofs.Ytjejdlolgmhljaa
open Go.RowKit
set_option linter.unusedSimpArgs false
set_option linter.unusedVariables false

def quoF (f : Int × Int) : Nat := f.1.toNat / 2 ^ f.2.toNat
/-- the error of a field -/
def chkF (f : Int × Int) : Int := if f.2 < 0 ∨ 64 < f.2 then 2 else if quoF f = 0 then 0 else 4
def encF (f : Int × Int) : List Value := [.int .u64 f.1, .int .i64 f.2]
def fldF (f : Int × Int) : List Bool := fld f.1.toNat f.2.toNat
def GoodF (f : Int × Int) : Prop := 0 ≤ f.1 ∧ f.1 < 18446744073709551616 ∧ -9223372036854775808 ≤ f.2 ∧ f.2 ≤ 9223372036854775807
def chkA : List (Int × Int) → Int
  | [] => 0
  | f :: fs => if chkF f = 0 then chkA fs else chkF f
def resA (bs : List Bool) (fs : List (Int × Int)) : List Bool := if chkA fs = 0 then bs ++ fs.flatMap fldF else bs
theorem encF_length (f : Int × Int) : (encF f).length = 2 := rfl
theorem chkA_app : ∀ a b : List (Int × Int), chkA a = 0 → chkA (a ++ b) = chkA b
  | [], b, _ => rfl
  | f :: a, b, h => by
    by_cases hf : chkF f = 0
    · simp only [chkA, if_pos hf, List.cons_append] at h ⊢
      exact chkA_app a b h
    · simp only [chkA, if_neg hf] at h
      exact absurd h hf
theorem chkA_at {fs : List (Int × Int)} {k : Nat} {f : Int × Int} (h : fs[k]? = some f) (h0 : chkA (fs.take k) = 0) (hf : chkF f ≠ 0) : chkA fs = chkF f := by
  have e : fs = fs.take (k + 1) ++ fs.drop (k + 1) := (List.take_append_drop _ _).symm
  rw [← take_snoc h] at e
  rw [e, List.append_assoc, chkA_app _ _ h0]
  simp [chkA, hf]
theorem chkA_snoc {fs : List (Int × Int)} {k : Nat} {f : Int × Int} (h : fs[k]? = some f) (h0 : chkA (fs.take k) = 0) (hf : chkF f = 0) : chkA (fs.take (k + 1)) = 0 := by
  rw [← take_snoc h, chkA_app _ _ h0]
  simp [chkA, hf]
theorem chkA_mem : ∀ {fs : List (Int × Int)}, chkA fs = 0 → ∀ f ∈ fs, chkF f = 0
  | [], _, f, h => by simp at h
  | g :: fs, h0, f, h => by
    by_cases hg : chkF g = 0
    · simp only [chkA, if_pos hg] at h0
      rcases List.mem_cons.1 h with rfl | h
      · exact hg
      · exact chkA_mem h0 f h
    · simp only [chkA, if_neg hg] at h0
      exact absurd h0 hg
theorem chkF_bd {f : Int × Int} (h : chkF f = 0) : 0 ≤ f.2 ∧ f.2 ≤ 64 ∧ quoF f = 0 := by
  unfold chkF at h
  split at h
  · simp at h
  · split at h
    · rename_i h1 h2
      exact ⟨by omega, by omega, h2⟩
    · simp at h
theorem flatF_length {fs : List (Int × Int)} (h : chkA fs = 0) : (fs.flatMap fldF).length ≤ fs.length * 64 := by
  induction fs with
  | nil => simp
  | cons f fs ih =>
    have h1 := chkF_bd (chkA_mem h f (by simp))
    have h2 : chkA fs = 0 := by
      by_cases hf : chkF f = 0
      · simpa only [chkA, if_pos hf] using h
      · simp only [chkA, if_neg hf] at h; exact absurd h hf
    have := ih h2
    simp only [List.flatMap_cons, List.length_append, List.length_cons, fldF, fld_length]
    omega
theorem take_zero {fs : List (Int × Int)} {k : Nat} (h : chkA fs = 0) : chkA (fs.take k) = 0 := by
  induction fs generalizing k with
  | nil => simp [chkA]
  | cons f fs ih =>
    cases k with
    | zero => rfl
    | succ k =>
      by_cases hf : chkF f = 0
      · simp only [chkA, if_pos hf, List.take_succ_cons] at h ⊢
        exact ih h
      · simp only [chkA, if_neg hf] at h; exact absurd h hf
theorem shr_chk (v wd : Int) (h0 : 0 ≤ v) (hw : 0 ≤ wd) (h64 : wd < 64) : v.fdiv (2 ^ (min wd.toNat IntKind.u64.bits)) = (quoF (v, wd) : Int) := by
  obtain ⟨n, rfl⟩ := Int.eq_ofNat_of_zero_le h0
  have e : min wd.toNat IntKind.u64.bits = wd.toNat := by
    have : IntKind.u64.bits = 64 := rfl
    omega
  rw [e, Int.fdiv_eq_ediv_of_nonneg _ (Int.le_of_lt (Int.pow_pos (by decide)))]
  simp [quoF]

theorem quo64 {v wd : Int} (h : wd = 64) (h1 : v < 18446744073709551616) : quoF (v, wd) = 0 := by
  subst h
  exact Nat.div_eq_of_lt (by simp only; have : (2 : Nat) ^ (64 : Int).toNat = 18446744073709551616 := by decide
                             omega)

theorem check_any (v wd : Int) (w : World) (hg : GoodF (v, wd)) :
    Calls Try.prog 63 #[.agg #[.int .u64 v, .int .i64 wd]] w (SX.Ret fun r w' => r = .int .i64 (chkF (v, wd)) ∧ SX.St w [] w' []) := by
  have hs := SX.St.start w
  obtain ⟨h0, h1, h2, h3⟩ := hg
  simp only at h0 h1 h2 h3
  refine Z.enter Try.func63 rfl Try.ntmps63 rfl rfl ?_
  refine Z.seq ?_
  refine Z.region ?_
  refine Z.le rfl trivial ?_
  refine Z.ZO.box rfl rfl (by rfl) rfl rfl hs ?_
  clear hs; intro g1 w1 hs
  refine Z.lb 1 rfl ?_
  refine Z.lnil ?_
  refine Z.only [1] rfl ?_
  refine Z.nthen ?_
  refine Z.seq ?_
  refine Z.block ?_
  refine Z.seq ?_
  refine Z.region ?_
  refine Z.l rfl rfl (by rfl) (Z.keepS hs) (Z.Yd.fieldA (m := 1) rfl (by kernel_rfl)) ?_
  refine Z.l rfl rfl (by rfl) (Z.keepS hs) (by first | exact Z.Yd.load rfl Try.isAgg3 (fun _ => Z.cellB (by first | ((repeat (first | exact List.mem_cons_self | refine List.mem_cons_of_mem _ ?_ | refine List.mem_append_right _ ?_)); done) | fail) rfl) | exact Z.Yd.load rfl Try.isAgg3 (fun _ => Z.cellO (by assumption) (by simp) (by assumption)) | fail "load 1.1") ?_
  refine Z.lb 2 rfl ?_
  refine Z.l rfl rfl (by rfl) (Z.keepS hs) (Z.Yd.fieldA (m := 1) rfl (by kernel_rfl)) ?_
  refine Z.l rfl rfl (by rfl) (Z.keepS hs) (by first | exact Z.Yd.load rfl Try.isAgg3 (fun _ => Z.cellB (by first | ((repeat (first | exact List.mem_cons_self | refine List.mem_cons_of_mem _ ?_ | refine List.mem_append_right _ ?_)); done) | fail) rfl) | exact Z.Yd.load rfl Try.isAgg3 (fun _ => Z.cellO (by assumption) (by simp) (by assumption)) | fail "load 1.5") ?_
  refine Z.lb 3 rfl ?_
  refine Z.lnil ?_
  refine Z.only [1, 3] rfl ?_
  refine Z.nthen ?_
  refine Z.cond rfl (fun hc1 => ?_) (fun hc1 => ?_)
  · first
      | (exfalso; simp at hc1 <;> omega)
      | (
        (try simp at hc1)
        refine Z.seq ?_
        refine Z.region ?_
        refine Z.lb 1 rfl ?_
        refine Z.lnil ?_
        refine Z.only [2] rfl ?_
        refine Z.nthen ?_
        refine Z.ret ?_
        repeat (first | refine Z.rthen ?_ | refine Z.rblock ?_ | refine Z.rscope ?_)
        -- ret#0
        refine Z.out1 (by exact ⟨rfl, trivial⟩) ?_
        exact ⟨_, rfl, by unfold chkF; rw [if_pos (by simp only; omega)], hs.sub (List.nil_sublist _)⟩
        )
  · first
      | (exfalso; simp at hc1 <;> omega)
      | (
        (try simp at hc1)
        refine Z.seq ?_
        refine Z.region ?_
        refine Z.l rfl rfl (by rfl) (Z.keepS hs) (Z.Yd.fieldA (m := 1) rfl (by kernel_rfl)) ?_
        refine Z.l rfl rfl (by rfl) (Z.keepS hs) (by first | exact Z.Yd.load rfl Try.isAgg3 (fun _ => Z.cellB (by first | ((repeat (first | exact List.mem_cons_self | refine List.mem_cons_of_mem _ ?_ | refine List.mem_append_right _ ?_)); done) | fail) rfl) | exact Z.Yd.load rfl Try.isAgg3 (fun _ => Z.cellO (by assumption) (by simp) (by assumption)) | fail "load 3.1") ?_
        refine Z.lb 2 rfl ?_
        refine Z.l rfl rfl (by rfl) (Z.keepS hs) (Z.Yd.fieldA (m := 0) rfl (by kernel_rfl)) ?_
        refine Z.l rfl rfl (by rfl) (Z.keepS hs) (by first | exact Z.Yd.load rfl Try.isAgg86 (fun _ => Z.cellB (by first | ((repeat (first | exact List.mem_cons_self | refine List.mem_cons_of_mem _ ?_ | refine List.mem_append_right _ ?_)); done) | fail) rfl) | exact Z.Yd.load rfl Try.isAgg86 (fun _ => Z.cellO (by assumption) (by simp) (by assumption)) | fail "load 3.5") ?_
        refine Z.l rfl rfl (by rfl) (Z.keepS hs) (Z.Yd.fieldA (m := 1) rfl (by kernel_rfl)) ?_
        refine Z.l rfl rfl (by rfl) (Z.keepS hs) (by first | exact Z.Yd.load rfl Try.isAgg3 (fun _ => Z.cellB (by first | ((repeat (first | exact List.mem_cons_self | refine List.mem_cons_of_mem _ ?_ | refine List.mem_append_right _ ?_)); done) | fail) rfl) | exact Z.Yd.load rfl Try.isAgg3 (fun _ => Z.cellO (by assumption) (by simp) (by assumption)) | fail "load 3.7") ?_
        refine Z.l rfl rfl (by rfl) (Z.keepS hs) (Z.Yd.shr rfl rfl (by intro hG; first | decide | omega) (by intro hG; have hG' := Z.gh rfl hG; simp at hG'; exact shr_chk v wd h0 (by omega) (by omega))) ?_
        refine Z.lb 3 rfl ?_
        refine Z.lnil ?_
        refine Z.only [12] rfl ?_
        refine Z.nthen ?_
        refine Z.cond rfl (fun hc3 => ?_) (fun hc3 => ?_)
        · first
            | (exfalso; simp at hc3 <;> omega)
            | (
              (try simp at hc3)
              refine Z.seq ?_
              refine Z.region ?_
              refine Z.lb 1 rfl ?_
              refine Z.lnil ?_
              refine Z.only [2] rfl ?_
              refine Z.nthen ?_
              refine Z.ret ?_
              repeat (first | refine Z.rthen ?_ | refine Z.rblock ?_ | refine Z.rscope ?_)
              -- ret#1
              refine Z.out1 (by exact ⟨rfl, trivial⟩) ?_
              exact ⟨_, rfl, by unfold chkF; rw [if_neg (by simp only; omega), if_neg (by omega)], hs.sub (List.nil_sublist _)⟩
              )
        · first
            | (exfalso; simp at hc3 <;> omega)
            | (
              (try simp at hc3)
              refine Z.skip ?_
              refine Z.nblock ?_
              refine Z.nthen ?_
              refine Z.seq ?_
              refine Z.region ?_
              refine Z.lb 1 rfl ?_
              refine Z.lnil ?_
              refine Z.only [2] rfl ?_
              refine Z.nthen ?_
              refine Z.ret ?_
              -- ret#2
              refine Z.out1 (by exact ⟨rfl, trivial⟩) ?_
              exact ⟨_, rfl, by unfold chkF; rw [if_neg (by simp only; omega), if_pos (by by_cases h : wd < 64; exact (by have := hc3 h; omega); exact quo64 (by omega) h1)], hs.sub (List.nil_sublist _)⟩
              )
        )
set_option maxRecDepth 100000 in
theorem putAll_any (g T : Nat) (sv : Value) (bs : List Bool) (A : Option Addr) (n c : Nat) (fs : List (Int × Int)) (w : World) (hs : SX.St w (SX.idsOf (WrL g T sv bs)) w (WrL g T sv bs))
    (hx : Sx w (SX.idsOf (WrL g T sv bs)) A (fs.flatMap encF)) (hl : fs.length = n) (hn : n ≤ 1000) (hb : bs.length ≤ 1000000) (hg : ∀ f ∈ fs, GoodF f) :
    Calls Try.prog 57 #[.pointer (some ⟨g, 0, none⟩), .slice A n c] w (SX.Ret fun r w' => ∃ sv', r = .int .i64 (chkA fs) ∧ SX.St w (SX.idsOf (WrL g T sv bs)) w' (WrL g T sv' (resA bs fs))) := by
  generalize hM : SX.idsOf (WrL g T sv bs) = M at *
  have hfl : (fs.flatMap encF).length = n * 2 := by rw [Z.flat_length (s := 2) encF_length, hl]
  refine Z.enter Try.func57 rfl Try.ntmps57 rfl rfl ?_
  refine Z.seq ?_
  refine Z.region ?_
  refine Z.lb 1 rfl ?_
  refine Z.lnil ?_
  refine Z.only [0, 1] rfl ?_
  refine Z.nthen ?_
  refine Z.seq ?_
  refine Z.seq ?_
  refine Z.region ?_
  refine Z.lb 1 rfl ?_
  refine Z.l rfl rfl (by rfl) (Z.keepS hs) (Z.Yd.ptrNil rfl rfl Try.underlying114) ?_
  refine Z.lnil ?_
  refine Z.only [0, 1, 11] rfl ?_
  refine Z.nthen ?_
  refine Z.cond rfl (fun h => absurd h (by simp)) (fun hc1 => ?_)
  refine Z.skip ?_
  refine Z.nthen ?_
  refine Z.seq ?_
  refine Z.seq ?_
  refine Z.region ?_
  refine Z.lb 1 rfl ?_
  refine Z.l rfl rfl (by rfl) (Z.keepS hs) (Z.Yd.lenS rfl Try.underlying101) ?_
  refine Z.lb 1 rfl ?_
  refine Z.lnil ?_
  refine Z.only [0, 1, 12, 13, 14] rfl ?_
  refine Z.nthen ?_
  refine Z.block ?_
  refine Z.loopk (ι := Nat) [0, 1, 12, 13] rfl (fun k => [(14, [], .int .i64 (k : Int))]) (fun k wr => k ≤ n ∧ chkA (fs.take k) = 0 ∧ SX.St w M wr (WrL g T sv bs)) (fun k => n - k) 0 (by refine ⟨?_, trivial⟩ <;> (first | rfl | (refine Z.lookv rfl ?_; simp; done) | (refine Z.lookv rfl ?_; simp; omega))) ⟨by omega, rfl, hs⟩ ?_
  clear hs
  rintro k w1 ⟨hkn, hz, hs⟩
  refine Z.only [0, 1, 12, 13, 14] rfl ?_
  refine Z.seq ?_
  refine Z.region ?_
  refine Z.lb 1 rfl ?_
  refine Z.lnil ?_
  refine Z.only [0, 1, 12, 13, 14, 15] rfl ?_
  refine Z.nthen ?_
  refine Z.seq ?_
  refine Z.cond rfl (fun hc4 => ?_) (fun hc4 => ?_)
  · first
      | (exfalso; simp at hc4 <;> omega)
      | (
        (try simp at hc4)
        obtain ⟨b, off, rfl, hx⟩ := hx.some (by omega)
        obtain ⟨⟨v, wd⟩, hf⟩ : ∃ f, fs[k]? = some f := ⟨_, List.getElem?_eq_getElem (by omega)⟩
        have hgf := hg _ (List.mem_of_getElem? hf)
        refine Z.skip ?_
        refine Z.nthen ?_
        refine Z.seq ?_
        refine Z.block ?_
        refine Z.seq ?_
        refine Z.region ?_
        refine Z.l rfl rfl (by rfl) (Z.keepS hs) (Z.Yd.elem rfl rfl Try.underlying101 Try.sizeOf88 (fun hG => ⟨(by first | omega | (have hG' := Z.gh rfl hG; simp at hG'; omega)), (by first | omega | (have hG' := Z.gh rfl hG; simp at hG'; omega))⟩)) ?_
        refine Z.l rfl rfl (by rfl) (Z.keepS hs) (Z.Yd.loadA _ rfl Try.isAgg88 (fun _ => Z.cellsX [.int .u64 v, .int .i64 wd] hx encF_length hf rfl) (by exact Try.sizeOf88)) ?_
        refine Z.le rfl trivial ?_
        refine Z.ZO.alloc rfl rfl (by rfl) Try.zeroValue88 rfl hs ?_
        clear hs; intro g6 w6 hs
        refine Z.le rfl trivial ?_
        refine Z.ZO.storeA rfl rfl hs rfl rfl (by kernel_rfl) (by first | (simp [Value.oneCell']; done) | (refine Z.all_one ?_; assumption)) (by first | exact SX.at0 | exact SX.at1 | exact SX.at2 | exact SX.at3 | exact SX.at4 | exact SX.at5 | exact Z.at6 | exact Z.at7 | exact Z.at8 | exact Z.at9 | exact Z.at10 | exact Z.at11 | exact Z.at12) (by rfl) ?_
        clear hs; intro ws hs
        simp only [Nat.zero_add, Nat.add_zero, Nat.reduceAdd, Int.reduceToNat, Nat.reduceMul, List.set_cons_zero, List.set_cons_succ, List.setIfInBounds_toArray] at hs
        refine Z.lnil ?_
        refine Z.only [0, 1, 6, 12, 13, 14] rfl ?_
        refine Z.nthen ?_
        refine Z.seq ?_
        refine Z.region ?_
        refine Z.l rfl rfl (by rfl) (Z.keepS hs) (by first | exact Z.Yd.loadA _ rfl Try.isAgg88 (fun _ => Z.cellsB (by first | ((repeat (first | exact List.mem_cons_self | refine List.mem_cons_of_mem _ ?_ | refine List.mem_append_right _ ?_)); done) | fail)) (by exact Try.sizeOf88) | fail "load 6.0") ?_
        refine Z.le rfl trivial ?_
        refine Z.ZO.call rfl rfl (by rfl) rfl rfl Try.call63 rfl (check_any v wd _ hgf) ?_
        rintro v6_1 w6_1 ⟨rfl, hy⟩
        replace hs := hs.call hy
        clear hy
        try simp only [List.cons_append, List.nil_append, List.append_nil] at hs
        refine Z.lb 1 rfl ?_
        refine Z.lnil ?_
        refine Z.only [0, 1, 7, 12, 13, 14] rfl ?_
        refine Z.nthen ?_
        refine Z.seq ?_
        refine Z.region ?_
        refine Z.lb 2 rfl ?_
        refine Z.lnil ?_
        refine Z.only [0, 1, 7, 12, 13, 14, 21] rfl ?_
        refine Z.nthen ?_
        refine Z.cond rfl (fun hc7 => ?_) (fun hc7 => ?_)
        · first
            | (exfalso; simp at hc7 <;> omega)
            | (
              (try simp at hc7)
              refine Z.seq ?_
              refine Z.region ?_
              refine Z.lb 2 rfl ?_
              refine Z.lnil ?_
              refine Z.only [4] rfl ?_
              refine Z.nthen ?_
              refine Z.ret ?_
              repeat (first | refine Z.rthen ?_ | refine Z.rblock ?_ | refine Z.rscope ?_)
              -- ret#0
              refine Z.out1 (by exact ⟨rfl, trivial⟩) ?_
              exact ⟨_, rfl, sv, by rw [chkA_at hf hz hc7], by unfold resA; rw [if_neg (by rw [chkA_at hf hz hc7]; exact hc7)]; exact hs.tl⟩
              )
        · first
            | (exfalso; simp at hc7 <;> omega)
            | (
              (try simp at hc7)
              refine Z.skip ?_
              refine Z.nblock ?_
              refine Z.nthen ?_
              refine Z.region ?_
              refine Z.l rfl rfl (by rfl) (Z.keepS hs) (Z.Yd.add rfl rfl (fun hG => Z.wi64 (by first | omega | (have hG' := Z.gh rfl hG; simp at hG'; omega)))) ?_
              refine Z.lb 1 rfl ?_
              refine Z.lnil ?_
              refine Z.only [0, 1, 12, 13, 14] rfl ?_
              refine Z.nthen ?_
              exact Z.again (k + 1) (by refine ⟨?_, ?_, ?_, ?_, ?_, trivial⟩ <;> (first | rfl | (refine Z.lookv rfl ?_; simp; done) | (refine Z.lookv rfl ?_; simp; omega))) ⟨by omega, chkA_snoc hf hz hc7, hs.tl⟩ (by omega)
              )
        )
  · first
      | (exfalso; simp at hc4 <;> omega)
      | (
        (try simp at hc4)
        refine Z.exit ?_
        refine Z.xthen ?_
        refine Z.xthen ?_
        refine Z.xblock ?_
        refine Z.nthen ?_
        refine Z.seq ?_
        refine Z.seq ?_
        refine Z.region ?_
        have hz0 : chkA fs = 0 := by rw [List.take_of_length_le (by omega)] at hz; exact hz
        refine Z.l rfl rfl (by rfl) (Z.keepS hs) (Z.Yd.pure rfl) ?_
        refine Z.l rfl rfl (by rfl) (Z.keepS hs) (Z.Yd.lenS rfl Try.underlying101) ?_
        refine Z.lb 1 rfl ?_
        refine Z.lnil ?_
        refine Z.only [0, 24, 25, 26] rfl ?_
        refine Z.nthen ?_
        refine Z.block ?_
        refine Z.loopk (ι := Nat × Value) [0, 24, 25] rfl (fun k => [(26, [], .int .i64 (k.1 : Int))]) (fun k wr => k.1 ≤ n ∧ SX.St w M wr (WrL g T k.2 (bs ++ (fs.take k.1).flatMap fldF))) (fun k => n - k.1) (0, sv) (by refine ⟨?_, trivial⟩ <;> (first | rfl | (refine Z.lookv rfl ?_; simp; done) | (refine Z.lookv rfl ?_; simp; omega))) ⟨by omega, by simpa using hs⟩ ?_
        clear hs
        rintro ⟨j, sv1⟩ w2 ⟨hjn, hs⟩
        refine Z.only [0, 24, 25, 26] rfl ?_
        (try dsimp only at hs)
        refine Z.seq ?_
        refine Z.region ?_
        refine Z.lb 1 rfl ?_
        refine Z.lnil ?_
        refine Z.only [0, 24, 25, 26, 27] rfl ?_
        refine Z.nthen ?_
        refine Z.seq ?_
        refine Z.cond rfl (fun hc11 => ?_) (fun hc11 => ?_)
        · first
            | (exfalso; simp at hc11 <;> omega)
            | (
              (try simp at hc11)
              obtain ⟨b, off, rfl, hx⟩ := hx.some (by omega)
              obtain ⟨⟨v, wd⟩, hf⟩ : ∃ f, fs[j]? = some f := ⟨_, List.getElem?_eq_getElem (by omega)⟩
              have hgf := hg _ (List.mem_of_getElem? hf)
              obtain ⟨hw0, hw1, hw2⟩ := chkF_bd (chkA_mem hz0 _ (List.mem_of_getElem? hf))
              obtain ⟨hv0, hv1, -, -⟩ := hgf
              simp only at hw0 hw1 hv0 hv1
              obtain ⟨v, rfl⟩ := Int.eq_ofNat_of_zero_le hv0
              obtain ⟨wd, rfl⟩ := Int.eq_ofNat_of_zero_le hw0
              refine Z.skip ?_
              refine Z.nthen ?_
              refine Z.seq ?_
              refine Z.block ?_
              refine Z.seq ?_
              refine Z.region ?_
              refine Z.l rfl rfl (by rfl) (Z.keepS hs) (Z.Yd.elem rfl rfl Try.underlying101 Try.sizeOf88 (fun hG => ⟨(by first | omega | (have hG' := Z.gh rfl hG; simp at hG'; omega)), (by first | omega | (have hG' := Z.gh rfl hG; simp at hG'; omega))⟩)) ?_
              refine Z.l rfl rfl (by rfl) (Z.keepS hs) (Z.Yd.loadA _ rfl Try.isAgg88 (fun _ => Z.cellsX [.int .u64 (v : Int), .int .i64 (wd : Int)] hx encF_length hf rfl) (by exact Try.sizeOf88)) ?_
              refine Z.le rfl trivial ?_
              refine Z.ZO.alloc rfl rfl (by rfl) Try.zeroValue88 rfl hs ?_
              clear hs; intro g9 w9 hs
              refine Z.le rfl trivial ?_
              refine Z.ZO.storeA rfl rfl hs rfl rfl (by kernel_rfl) (by first | (simp [Value.oneCell']; done) | (refine Z.all_one ?_; assumption)) (by first | exact SX.at0 | exact SX.at1 | exact SX.at2 | exact SX.at3 | exact SX.at4 | exact SX.at5 | exact Z.at6 | exact Z.at7 | exact Z.at8 | exact Z.at9 | exact Z.at10 | exact Z.at11 | exact Z.at12) (by rfl) ?_
              clear hs; intro ws hs
              simp only [Nat.zero_add, Nat.add_zero, Nat.reduceAdd, Int.reduceToNat, Nat.reduceMul, List.set_cons_zero, List.set_cons_succ, List.setIfInBounds_toArray] at hs
              refine Z.lnil ?_
              refine Z.only [0, 9, 24, 25, 26] rfl ?_
              refine Z.nthen ?_
              refine Z.region ?_
              refine Z.lb 1 rfl ?_
              refine Z.l rfl rfl (by rfl) (Z.keepS hs) (Z.Yd.fieldA (m := 0) rfl (by kernel_rfl)) ?_
              refine Z.l rfl rfl (by rfl) (Z.keepS hs) (by first | exact Z.Yd.load rfl Try.isAgg86 (fun _ => Z.cellB (by first | ((repeat (first | exact List.mem_cons_self | refine List.mem_cons_of_mem _ ?_ | refine List.mem_append_right _ ?_)); done) | fail) rfl) | exact Z.Yd.load rfl Try.isAgg86 (fun _ => Z.cellO (by assumption) (by simp) (by assumption)) | fail "load 13.2") ?_
              refine Z.l rfl rfl (by rfl) (Z.keepS hs) (Z.Yd.fieldA (m := 1) rfl (by kernel_rfl)) ?_
              refine Z.l rfl rfl (by rfl) (Z.keepS hs) (by first | exact Z.Yd.load rfl Try.isAgg3 (fun _ => Z.cellB (by first | ((repeat (first | exact List.mem_cons_self | refine List.mem_cons_of_mem _ ?_ | refine List.mem_append_right _ ?_)); done) | fail) rfl) | exact Z.Yd.load rfl Try.isAgg3 (fun _ => Z.cellO (by assumption) (by simp) (by assumption)) | fail "load 13.4") ?_
              replace hs := hs.rot (L1 := [_])
              change SX.St _ _ _ (WrL g T sv1 _ ++ [_]) at hs
              have hlen : (bs ++ (fs.take j).flatMap fldF).length ≤ 1100000 := by
                have := flatF_length (take_zero (k := j) hz0)
                simp only [List.length_append, List.length_take] at this ⊢
                omega
              refine Z.le rfl trivial ?_
              refine Z.ZO.call rfl rfl (by rfl) rfl rfl Try.call64 rfl (put_any g T sv1 (bs ++ (fs.take j).flatMap fldF) v wd _ hs.lend (by omega) (by omega) (by omega)) ?_
              rintro v13_5 w13_5 ⟨sv2, rfl, hz⟩
              replace hs := hs.regain hz
              refine Z.lnil ?_
              refine Z.only [0, 24, 25, 26] rfl ?_
              refine Z.nblock ?_
              refine Z.nthen ?_
              refine Z.region ?_
              refine Z.l rfl rfl (by rfl) (Z.keepS hs) (Z.Yd.add rfl rfl (fun hG => Z.wi64 (by first | omega | (have hG' := Z.gh rfl hG; simp at hG'; omega)))) ?_
              refine Z.lb 1 rfl ?_
              refine Z.lnil ?_
              refine Z.only [0, 24, 25, 26] rfl ?_
              refine Z.nthen ?_
              have e : (bs ++ (fs.take j).flatMap fldF) ++ fld v wd = bs ++ (fs.take (j + 1)).flatMap fldF := by
                rw [← take_snoc hf]
                simp [fldF]
              rw [e] at hs
              exact Z.again (j + 1, sv2) (by refine ⟨?_, ?_, ?_, ?_, trivial⟩ <;> (first | rfl | (refine Z.lookv rfl ?_; simp; done) | (refine Z.lookv rfl ?_; simp; omega))) ⟨by simp only; omega, hs.sub (List.sublist_append_left _ _)⟩ (by simp only; omega)
              )
        · first
            | (exfalso; simp at hc11 <;> omega)
            | (
              (try simp at hc11)
              refine Z.exit ?_
              refine Z.xthen ?_
              refine Z.xthen ?_
              refine Z.xblock ?_
              refine Z.nthen ?_
              refine Z.seq ?_
              refine Z.region ?_
              refine Z.lb 1 rfl ?_
              refine Z.lnil ?_
              refine Z.only [4] rfl ?_
              refine Z.nthen ?_
              refine Z.ret ?_
              -- ret#1
              refine Z.out1 (by exact ⟨rfl, trivial⟩) ?_
              refine ⟨_, rfl, sv1, by rw [hz0], ?_⟩
              unfold resA
              rw [if_pos hz0]
              rw [List.take_of_length_le (by omega)] at hs
              exact hs
              )
        )

theorem wbytes_any (g T : Nat) (sv : Value) (bs : List Bool) (w : World) (hs : SX.St w (SX.idsOf (WrL g T sv bs)) w (WrL g T sv bs)) (hb : bs.length ≤ 1000000) :
    Calls Try.prog 58 #[.pointer (some ⟨g, 0, none⟩)] w (SX.Ret fun r w' => SX.St w (SX.idsOf (WrL g T sv bs)) w' (SX.Ent.row r 5 1 (pk bs).length (ints .u8 (pk bs)) :: WrL g T sv bs)) := by
  generalize hM : SX.idsOf (WrL g T sv bs) = M at *
  simp only [WrL] at hs
  have hpl := pk_length bs
  obtain ⟨A, c, rfl, hl1, hl2, hx⟩ := SX.row_slv hs SX.at1
  refine Z.enter Try.func58 rfl Try.ntmps58 rfl rfl ?_
  refine Z.seq ?_
  refine Z.region ?_
  refine Z.lb 1 rfl ?_
  refine Z.lnil ?_
  refine Z.only [0] rfl ?_
  refine Z.nthen ?_
  refine Z.seq ?_
  refine Z.seq ?_
  refine Z.region ?_
  refine Z.lb 1 rfl ?_
  refine Z.l rfl rfl (by rfl) (Z.keepS hs) (Z.Yd.ptrNil rfl rfl Try.underlying114) ?_
  refine Z.lnil ?_
  refine Z.only [0, 4] rfl ?_
  refine Z.nthen ?_
  refine Z.cond rfl (fun h => absurd h (by simp)) (fun hc1 => ?_)
  refine Z.skip ?_
  refine Z.nthen ?_
  refine Z.seq ?_
  refine Z.region ?_
  refine Z.lb 1 rfl ?_
  refine Z.l rfl rfl (by rfl) (Z.keepS hs) (Z.Yd.nilc rfl rfl) ?_
  refine Z.l rfl rfl (by rfl) (Z.keepS hs) (Z.Yd.fieldA (m := 0) rfl (by kernel_rfl)) ?_
  refine Z.l rfl rfl (by rfl) (Z.keepS hs) (Z.Yd.fieldA (m := 0) rfl (by kernel_rfl)) ?_
  refine Z.l rfl rfl (by rfl) (Z.keepS hs) (by first | exact Z.Yd.load rfl Try.isAgg49 (fun _ => Z.cellB (by first | ((repeat (first | exact List.mem_cons_self | refine List.mem_cons_of_mem _ ?_ | refine List.mem_append_right _ ?_)); done) | fail) rfl) | exact Z.Yd.load rfl Try.isAgg49 (fun _ => Z.cellO (by assumption) (by simp) (by assumption)) | fail "load 3.4") ?_
  refine Z.le rfl trivial ?_
  refine Z.ZO.call rfl rfl (by rfl) rfl rfl Try.call65 rfl (clone8 [] A (pk bs).length c (pk bs) _ hx.sx rfl (by omega) (SX.row_none hs SX.at1)) ?_
  rintro v3_5 w3_5 hy
  replace hs := hs.call hy
  clear hy
  try simp only [List.cons_append, List.nil_append, List.append_nil] at hs
  refine Z.lb 1 rfl ?_
  refine Z.lnil ?_
  refine Z.only [2] rfl ?_
  refine Z.nthen ?_
  refine Z.ret ?_
  -- ret#0
  refine Z.out1 (by exact ⟨rfl, trivial⟩) ?_
  exact ⟨_, rfl, hs⟩
end Go.Proofs.Ytjejdlolgmhljaa

/- The document's PutAll; the law's few and act. -/
namespace Go.Proofs.Ytjejdlolgmhljaa
open Go.RowKit
set_option linter.unusedSimpArgs false
set_option linter.unusedVariables false

end Go.Proofs.Ytjejdlolgmhljaa

/- The law's few and act. -/
namespace Go.Proofs.Ytjejdlolgmhljaa
open Go.RowKit
set_option linter.unusedSimpArgs false
set_option linter.unusedVariables false

structure ActV where
  what : Int
  v : Int
  n : Int
  bA : Option Addr
  bc : Nat
  bl : List Int
  fA : Option Addr
  fc : Nat
  fl : List (Int × Int)
structure GoodA (W : World) (x : ActV) : Prop where
  what : -9223372036854775808 ≤ x.what ∧ x.what ≤ 9223372036854775807
  vn : GoodF (x.v, x.n)
  bl : ∀ b ∈ x.bl, 0 ≤ b ∧ b < 256
  fl : ∀ f ∈ x.fl, GoodF f
  bs : Sl W x.bA (ints .u8 x.bl)
  fs : Sl W x.fA (x.fl.flatMap encF)
  b63 : x.bl.length ≤ maxLen
  f63 : x.fl.length ≤ maxLen
end Go.Proofs.Ytjejdlolgmhljaa

/- The reader: Left, At, Get, Align, End, NewReader. -/
namespace Go.Proofs.Ytjejdlolgmhljaa
open Go.RowKit
set_option linter.unusedSimpArgs false
set_option linter.unusedVariables false

/-- the value of bits -/
def val (bs : List Bool) : Nat := bs.foldl (fun v b => 2 * v + b.toNat) 0
theorem val_snoc (bs : List Bool) (b : Bool) : val (bs ++ [b]) = 2 * val bs + b.toNat := by simp [val]
end Go.Proofs.Ytjejdlolgmhljaa

/- The reader: Align, End. -/
namespace Go.Proofs.Ytjejdlolgmhljaa
open Go.RowKit
set_option linter.unusedSimpArgs false
set_option linter.unusedVariables false

theorem WrL_start {w0 w : World} {M : List Nat} {L : List SX.Ent} {g T : Nat} (hs : SX.St w0 M w (SX.Ent.blk g T #[.slice none 0 0, .int .i64 0] :: L)) : SX.St w0 M w (WrL g T (.slice none 0 0) [] ++ L) := by
  have h := hs.nil 5 1
  exact h.perm (List.Perm.swap _ _ _)

end Go.Proofs.Ytjejdlolgmhljaa

/- Control elements: panics and recover. -/
namespace Go.Proofs.Ytjejdlolgmhljaa
open Go.RowKit
set_option linter.unusedSimpArgs false
set_option linter.unusedVariables false
--newlaws

theorem must_ok (b : Bool) (e : Int) (w : World) (hb : b = true) : Calls Try.prog 46 #[.bool b, .int .i64 e] w (SX.Ret fun v w' => v = .tuple #[] ∧ SX.St w [] w' []) := by
  have hs := SX.St.start w
  subst hb
  refine Z.enter Try.func46 rfl Try.ntmps46 rfl rfl ?_
  refine Z.seq ?_
  refine Z.region ?_
  refine Z.lb 2 rfl ?_
  refine Z.lnil ?_
  refine Z.only [1, 5] rfl ?_
  refine Z.nthen ?_
  refine Z.cond rfl (fun h => absurd h (by simp)) (fun hc0 => ?_)
  refine Z.skip ?_
  -- ret#0
  refine Z.out0n trivial ?_
  first | exact ⟨_, rfl, rfl, hs⟩ | exact ⟨_, rfl, rfl, hs.sub (List.nil_sublist _)⟩
theorem caught_ret (ge k : Nat) (cap : Array Value) (w : World) :
    CallsDm Try.prog 55 #[.pointer (some ⟨ge, 0, none⟩), .func (.func k) #[] cap] .returning .returning w (fun v w' => v = .tuple #[] ∧ SX.St w [] w' []) := by
  have hs := SX.St.start w
  refine Z.enterRec (Z.rec_ret) Try.func55 rfl Try.ntmps55 rfl rfl rfl rfl rfl rfl rfl rfl rfl rfl ?_
  refine Z.seq ?_
  refine Z.region ?_
  refine Z.lb 1 rfl ?_
  refine Z.l rfl rfl (by rfl) (Z.keepS hs) (Z.Yd.bin rfl rfl (by intro _ w; go_simp; try rfl)) ?_
  refine Z.lnil ?_
  refine Z.only [0, 1, 4, 9] rfl ?_
  refine Z.nthen ?_
  refine Z.cond rfl (fun h => absurd h (by simp)) (fun hc1 => ?_)
  refine Z.skip ?_
  -- ret#0
  refine Z.out0n trivial ?_
  first | exact ⟨_, rfl, rfl, hs⟩ | exact ⟨_, rfl, rfl, hs.sub (List.nil_sublist _)⟩

/-- the fields of a level and of a group -/
theorem level_ok (n : Int) (w : World) (h : 0 ≤ n ∧ n ≤ 63) : Calls Try.prog 48 #[.int .i64 n] w (SX.Ret fun v w' => v = .agg #[.int .u64 n, .int .i64 6] ∧ SX.St w [] w' []) := by
  have hs := SX.St.start w
  refine Z.enter Try.func48 rfl Try.ntmps48 rfl rfl ?_
  refine Z.seq ?_
  refine Z.region ?_
  refine Z.le rfl trivial ?_
  refine Z.ZO.alloc rfl rfl (by rfl) Try.zeroValue88 rfl hs ?_
  clear hs; intro g2 w2 hs
  refine Z.lnil ?_
  refine Z.only [0, 2] rfl ?_
  refine Z.nthen ?_
  refine Z.seq ?_
  refine Z.region ?_
  refine Z.lb 6 rfl ?_
  refine Z.le rfl trivial ?_
  refine Z.ZO.call rfl rfl (by rfl) rfl rfl Try.call46 rfl (must_ok _ 2 _ (by simp; omega)) ?_
  rintro v1_6 w1_6 ⟨rfl, hy⟩
  replace hs := hs.call hy
  clear hy
  try simp only [List.cons_append, List.nil_append, List.append_nil] at hs
  refine Z.lnil ?_
  refine Z.only [0, 2] rfl ?_
  refine Z.nthen ?_
  refine Z.seq ?_
  refine Z.region ?_
  refine Z.lb 1 rfl ?_
  refine Z.l rfl rfl (by rfl) (Z.keepS hs) (Z.Yd.convI rfl ⟨_, Try.underlying3⟩ Try.underlying86 (fun hG => Z.wu64 (by first | omega | (have hG' := Z.gh rfl hG; simp at hG'; omega)))) ?_
  refine Z.l rfl rfl (by rfl) (Z.keepS hs) (Z.Yd.buildL [(0, 1), (1, 1)] [.int .u64 0, .int .i64 0] rfl rfl (by intro w; kernel_rfl)) ?_
  refine Z.le rfl trivial ?_
  first | refine Z.ZO.storeA rfl rfl hs rfl rfl (by kernel_rfl) (by first | (simp [Value.oneCell']; done) | (refine Z.all_one ?_; assumption)) (by first | exact SX.at0 | exact SX.at1 | exact SX.at2 | exact SX.at3 | exact SX.at4 | exact SX.at5 | exact Z.at6 | exact Z.at7 | exact Z.at8 | exact Z.at9 | exact Z.at10 | exact Z.at11 | exact Z.at12) (by rfl) ?_ | refine Z.ZO.storeP rfl rfl hs rfl rfl (by kernel_rfl) (by first | (simp [Value.oneCell']; done) | (refine Z.all_one ?_; assumption)) (by first | exact SX.at0 | exact SX.at1 | exact SX.at2 | exact SX.at3 | exact SX.at4 | exact SX.at5 | exact Z.at6 | exact Z.at7 | exact Z.at8 | exact Z.at9 | exact Z.at10 | exact Z.at11 | exact Z.at12) (by first | decide | (simp; done) | (simp; omega)) ?_ | refine Z.ZO.storePR rfl rfl hs rfl rfl (by kernel_rfl) (by first | (simp [Value.oneCell']; done) | (refine Z.all_one ?_; assumption)) (by first | exact SX.at0 | exact SX.at1 | exact SX.at2 | exact SX.at3 | exact SX.at4 | exact SX.at5 | exact Z.at6 | exact Z.at7 | exact Z.at8 | exact Z.at9 | exact Z.at10 | exact Z.at11 | exact Z.at12) (by first | decide | (simp; done) | (simp; omega)) ?_
  clear hs; intro ws hs
  simp only [Nat.zero_add, Nat.add_zero, Nat.reduceAdd, Int.reduceToNat, Nat.reduceMul, List.set_cons_zero, List.set_cons_succ, List.setIfInBounds_toArray] at hs
  try simp only [Z.putL, Nat.zero_add] at hs
  refine Z.lnil ?_
  refine Z.only [2] rfl ?_
  refine Z.nthen ?_
  refine Z.ret ?_
  -- ret#0
  refine Z.out1 (by exact ⟨⟨_, rfl, Z.rvcA hs Try.isAgg88 (by first | ((repeat (first | exact List.mem_cons_self | refine List.mem_cons_of_mem _ ?_ | refine List.mem_append_right _ ?_)); done) | fail) (by exact Try.sizeOf88)⟩, trivial⟩) ?_
  first | exact ⟨_, rfl, rfl, hs⟩ | exact ⟨_, rfl, rfl, hs.sub (List.nil_sublist _)⟩
theorem group_ok (n : Int) (w : World) (h : 0 ≤ n ∧ n ≤ 3) : Calls Try.prog 45 #[.int .i64 n] w (SX.Ret fun v w' => v = .agg #[.int .u64 n, .int .i64 2] ∧ SX.St w [] w' []) := by
  have hs := SX.St.start w
  refine Z.enter Try.func45 rfl Try.ntmps45 rfl rfl ?_
  refine Z.seq ?_
  refine Z.region ?_
  refine Z.le rfl trivial ?_
  refine Z.ZO.alloc rfl rfl (by rfl) Try.zeroValue88 rfl hs ?_
  clear hs; intro g2 w2 hs
  refine Z.lnil ?_
  refine Z.only [0, 2] rfl ?_
  refine Z.nthen ?_
  refine Z.seq ?_
  refine Z.region ?_
  refine Z.lb 6 rfl ?_
  refine Z.le rfl trivial ?_
  refine Z.ZO.call rfl rfl (by rfl) rfl rfl Try.call46 rfl (must_ok _ 2 _ (by simp; omega)) ?_
  rintro v1_6 w1_6 ⟨rfl, hy⟩
  replace hs := hs.call hy
  clear hy
  try simp only [List.cons_append, List.nil_append, List.append_nil] at hs
  refine Z.lnil ?_
  refine Z.only [0, 2] rfl ?_
  refine Z.nthen ?_
  refine Z.seq ?_
  refine Z.region ?_
  refine Z.lb 1 rfl ?_
  refine Z.l rfl rfl (by rfl) (Z.keepS hs) (Z.Yd.convI rfl ⟨_, Try.underlying3⟩ Try.underlying86 (fun hG => Z.wu64 (by first | omega | (have hG' := Z.gh rfl hG; simp at hG'; omega)))) ?_
  refine Z.l rfl rfl (by rfl) (Z.keepS hs) (Z.Yd.buildL [(0, 1), (1, 1)] [.int .u64 0, .int .i64 0] rfl rfl (by intro w; kernel_rfl)) ?_
  refine Z.le rfl trivial ?_
  first | refine Z.ZO.storeA rfl rfl hs rfl rfl (by kernel_rfl) (by first | (simp [Value.oneCell']; done) | (refine Z.all_one ?_; assumption)) (by first | exact SX.at0 | exact SX.at1 | exact SX.at2 | exact SX.at3 | exact SX.at4 | exact SX.at5 | exact Z.at6 | exact Z.at7 | exact Z.at8 | exact Z.at9 | exact Z.at10 | exact Z.at11 | exact Z.at12) (by rfl) ?_ | refine Z.ZO.storeP rfl rfl hs rfl rfl (by kernel_rfl) (by first | (simp [Value.oneCell']; done) | (refine Z.all_one ?_; assumption)) (by first | exact SX.at0 | exact SX.at1 | exact SX.at2 | exact SX.at3 | exact SX.at4 | exact SX.at5 | exact Z.at6 | exact Z.at7 | exact Z.at8 | exact Z.at9 | exact Z.at10 | exact Z.at11 | exact Z.at12) (by first | decide | (simp; done) | (simp; omega)) ?_ | refine Z.ZO.storePR rfl rfl hs rfl rfl (by kernel_rfl) (by first | (simp [Value.oneCell']; done) | (refine Z.all_one ?_; assumption)) (by first | exact SX.at0 | exact SX.at1 | exact SX.at2 | exact SX.at3 | exact SX.at4 | exact SX.at5 | exact Z.at6 | exact Z.at7 | exact Z.at8 | exact Z.at9 | exact Z.at10 | exact Z.at11 | exact Z.at12) (by first | decide | (simp; done) | (simp; omega)) ?_
  clear hs; intro ws hs
  simp only [Nat.zero_add, Nat.add_zero, Nat.reduceAdd, Int.reduceToNat, Nat.reduceMul, List.set_cons_zero, List.set_cons_succ, List.setIfInBounds_toArray] at hs
  try simp only [Z.putL, Nat.zero_add] at hs
  refine Z.lnil ?_
  refine Z.only [2] rfl ?_
  refine Z.nthen ?_
  refine Z.ret ?_
  -- ret#0
  refine Z.out1 (by exact ⟨⟨_, rfl, Z.rvcA hs Try.isAgg88 (by first | ((repeat (first | exact List.mem_cons_self | refine List.mem_cons_of_mem _ ?_ | refine List.mem_append_right _ ?_)); done) | fail) (by exact Try.sizeOf88)⟩, trivial⟩) ?_
  first | exact ⟨_, rfl, rfl, hs⟩ | exact ⟨_, rfl, rfl, hs.sub (List.nil_sublist _)⟩
/-- an element of LCID lc with data l -/
def IsPart (lc : Int) (l : List Int) (v : Value) (w w' : World) : Prop := ∃ B co, v = .agg #[.int .i64 lc, .slice B l.length l.length] ∧ SX.St w [] w' [SX.Ent.row (.slice B l.length co) 5 1 l.length (ints .u8 l)]

set_option maxRecDepth 100000 in
theorem built_ok (lc : Int) (A : Option Addr) (n c : Nat) (fs : List (Int × Int)) (w : World) (hx : Sx w [] A (fs.flatMap encF)) (hl : fs.length = n) (hn : n ≤ 1000) (hg : ∀ f ∈ fs, GoodF f) (h0 : chkA fs = 0) :
    Calls Try.prog 47 #[.int .i64 lc, .slice A n c] w (SX.Ret fun v w' => IsPart lc (pk (fs.flatMap fldF)) v w w') := by
  have hs := SX.St.start w
  have hfl := flatF_length h0
  have hpl := pk_length (fs.flatMap fldF)
  refine Z.enter Try.func47 rfl Try.ntmps47 rfl rfl ?_
  refine Z.seq ?_
  refine Z.region ?_
  refine Z.le rfl trivial ?_
  refine Z.ZO.alloc rfl rfl (by rfl) Try.zeroValue51 rfl hs ?_
  clear hs; intro g4 w4 hs
  refine Z.lnil ?_
  refine Z.only [0, 1, 4] rfl ?_
  refine Z.nthen ?_
  refine Z.seq ?_
  refine Z.region ?_
  refine Z.le rfl trivial ?_
  refine Z.ZO.alloc rfl rfl (by rfl) Try.zeroValue105 rfl hs ?_
  clear hs; intro g5 w5 hs
  refine Z.lnil ?_
  refine Z.only [0, 1, 4, 5] rfl ?_
  refine Z.nthen ?_
  refine Z.seq ?_
  refine Z.region ?_
  replace hs := WrL_start hs
  refine Z.l rfl rfl (by rfl) (Z.keepS hs) (Z.Yd.pure rfl) ?_
  refine Z.le rfl trivial ?_
  refine Z.ZO.call rfl rfl (by rfl) rfl rfl Try.call57 rfl (putAll_any g5 _ _ [] A n c fs _ hs.lend (hx.lent hs) hl hn (by simp) hg) ?_
  rintro v2_1 w2_1 ⟨sv1, rfl, hz⟩
  replace hs := hs.regain hz
  rw [h0]
  have er : resA [] fs = fs.flatMap fldF := by unfold resA; rw [if_pos h0]; rfl
  rw [er] at hs
  refine Z.lb 1 rfl ?_
  refine Z.le rfl trivial ?_
  refine Z.ZO.call rfl rfl (by rfl) rfl rfl Try.call46 rfl (must_ok _ 2 _ (by simp)) ?_
  rintro v2_3 w2_3 ⟨rfl, hy⟩
  replace hs := hs.call hy
  clear hy
  try simp only [List.cons_append, List.nil_append, List.append_nil] at hs
  refine Z.lnil ?_
  refine Z.only [0, 4, 5] rfl ?_
  refine Z.nthen ?_
  refine Z.seq ?_
  refine Z.region ?_
  refine Z.le rfl trivial ?_
  refine Z.ZO.call rfl rfl (by rfl) rfl rfl Try.call58 rfl (wbytes_any g5 _ sv1 _ _ hs.lend (by omega)) ?_
  rintro v3_0 w3_0 hz
  replace hs := hs.regain hz
  obtain ⟨B, co, rfl, hco, -, -⟩ := SX.row_slv hs (j := 0) rfl
  refine Z.lb 1 rfl ?_
  refine Z.lnil ?_
  refine Z.only [0, 4, 6] rfl ?_
  refine Z.nthen ?_
  refine Z.seq ?_
  refine Z.region ?_
  refine Z.lb 3 rfl ?_
  refine Z.l rfl rfl (by rfl) (Z.keepS hs) (Z.Yd.lenS rfl Try.underlying49) ?_
  refine Z.lb 1 rfl ?_
  refine Z.l rfl rfl (by rfl) (Z.keepS hs) (Z.Yd.lenS rfl Try.underlying49) ?_
  refine Z.l rfl rfl (by rfl) (Z.keepS hs) (Z.Yd.cut3 0 (pk (fs.flatMap fldF)).length (pk (fs.flatMap fldF)).length rfl rfl rfl rfl Try.underlying49 Try.sizeOf5 (fun hG => ⟨(by first | omega | (have hG' := Z.gh rfl hG; simp at hG'; omega)), (by first | omega | (have hG' := Z.gh rfl hG; simp at hG'; omega)), (by first | omega | (have hG' := Z.gh rfl hG; simp at hG'; omega)), (by first | omega | (have hG' := Z.gh rfl hG; simp at hG'; omega)), (by first | omega | (have hG' := Z.gh rfl hG; simp at hG'; omega))⟩)) ?_
  refine Z.l rfl rfl (by rfl) (Z.keepS hs) (Z.Yd.buildL [(0, 1), (1, 1)] [.int .i64 0, .slice none 0 0] rfl rfl (by intro w; kernel_rfl)) ?_
  rw [slA_zero]
  simp only [WrL, List.cons_append, List.nil_append] at hs
  refine Z.le rfl trivial ?_
  first | refine Z.ZO.storeA rfl rfl hs rfl rfl (by kernel_rfl) (by first | (simp [Value.oneCell']; done) | (refine Z.all_one ?_; assumption)) (by first | exact SX.at0 | exact SX.at1 | exact SX.at2 | exact SX.at3 | exact SX.at4 | exact SX.at5 | exact Z.at6 | exact Z.at7 | exact Z.at8 | exact Z.at9 | exact Z.at10 | exact Z.at11 | exact Z.at12) (by rfl) ?_ | refine Z.ZO.storeP rfl rfl hs rfl rfl (by kernel_rfl) (by first | (simp [Value.oneCell']; done) | (refine Z.all_one ?_; assumption)) (by first | exact SX.at0 | exact SX.at1 | exact SX.at2 | exact SX.at3 | exact SX.at4 | exact SX.at5 | exact Z.at6 | exact Z.at7 | exact Z.at8 | exact Z.at9 | exact Z.at10 | exact Z.at11 | exact Z.at12) (by first | decide | (simp; done) | (simp; omega)) ?_ | refine Z.ZO.storePR rfl rfl hs rfl rfl (by kernel_rfl) (by first | (simp [Value.oneCell']; done) | (refine Z.all_one ?_; assumption)) (by first | exact SX.at0 | exact SX.at1 | exact SX.at2 | exact SX.at3 | exact SX.at4 | exact SX.at5 | exact Z.at6 | exact Z.at7 | exact Z.at8 | exact Z.at9 | exact Z.at10 | exact Z.at11 | exact Z.at12) (by first | decide | (simp; done) | (simp; omega)) ?_
  clear hs; intro ws hs
  simp only [Nat.zero_add, Nat.add_zero, Nat.reduceAdd, Int.reduceToNat, Nat.reduceMul, List.set_cons_zero, List.set_cons_succ, List.setIfInBounds_toArray] at hs
  try simp only [Z.putL, Nat.zero_add] at hs
  refine Z.lnil ?_
  refine Z.only [4] rfl ?_
  refine Z.nthen ?_
  refine Z.ret ?_
  -- ret#0
  refine Z.out1 (by exact ⟨⟨_, rfl, Z.rvcA hs Try.isAgg51 (by first | ((repeat (first | exact List.mem_cons_self | refine List.mem_cons_of_mem _ ?_ | refine List.mem_append_right _ ?_)); done) | fail) (by exact Try.sizeOf51)⟩, trivial⟩) ?_
  exact ⟨_, rfl, B, co, rfl, hs.sub (by simp)⟩
set_option maxRecDepth 100000 in
theorem element_ok (k : Nat) (cap : Array Value) (lc : Int) (l : List Int) (w : World) (hk : ∀ args w, (callFunc k args).run Try.prog w = .ok (.enter k args) w)
    (hof : ∀ W L, SX.St w [] W L → Calls Try.prog k cap W (SX.Ret fun v w' => IsPart lc l v W w')) :
    Calls Try.prog 43 #[.func (.func k) #[] cap] w (SX.Ret fun v w' => ∃ u, v = .tuple #[u, .int .i64 0] ∧ IsPart lc l u w w') := by
  have hs := SX.St.start w
  refine Z.enterD Try.func43 rfl Try.ntmps43 rfl rfl ?_
  refine Z.seq ?_
  refine Z.region ?_
  refine Z.le rfl trivial ?_
  refine Z.ZO.alloc rfl rfl (by rfl) Try.zeroValue51 rfl hs ?_
  clear hs; intro g2 w2 hs
  refine Z.le rfl trivial ?_
  refine Z.ZO.alloc rfl rfl (by rfl) Try.zeroValue24 rfl hs ?_
  clear hs; intro g3 w3 hs
  refine Z.lnil ?_
  refine Z.only [0, 2, 3] rfl ?_
  refine Z.nthen ?_
  refine Z.seq ?_
  refine Z.region ?_
  refine Z.lb 1 rfl ?_
  refine Z.le rfl trivial ?_
  refine Z.ZO.defer rfl rfl rfl rfl ?_
  refine Z.lnil ?_
  refine Z.only [0, 2, 3] rfl ?_
  refine Z.nthen ?_
  refine Z.seq ?_
  refine Z.region ?_
  refine Z.lb 1 rfl ?_
  refine Z.le rfl trivial ?_
  refine Z.ZO.call rfl rfl (by rfl) rfl rfl hk (by first | rfl | simp) (hof _ _ hs) ?_
  rintro v2_1 w2_1 ⟨B, co, rfl, hy⟩
  replace hs := hs.call hy
  clear hy
  try simp only [List.cons_append, List.nil_append, List.append_nil] at hs
  refine Z.le rfl trivial ?_
  first | refine Z.ZO.storeA rfl rfl hs rfl rfl (by kernel_rfl) (by first | (simp [Value.oneCell']; done) | (refine Z.all_one ?_; assumption)) (by first | exact SX.at0 | exact SX.at1 | exact SX.at2 | exact SX.at3 | exact SX.at4 | exact SX.at5 | exact Z.at6 | exact Z.at7 | exact Z.at8 | exact Z.at9 | exact Z.at10 | exact Z.at11 | exact Z.at12) (by rfl) ?_ | refine Z.ZO.storeP rfl rfl hs rfl rfl (by kernel_rfl) (by first | (simp [Value.oneCell']; done) | (refine Z.all_one ?_; assumption)) (by first | exact SX.at0 | exact SX.at1 | exact SX.at2 | exact SX.at3 | exact SX.at4 | exact SX.at5 | exact Z.at6 | exact Z.at7 | exact Z.at8 | exact Z.at9 | exact Z.at10 | exact Z.at11 | exact Z.at12) (by first | decide | (simp; done) | (simp; omega)) ?_ | refine Z.ZO.storePR rfl rfl hs rfl rfl (by kernel_rfl) (by first | (simp [Value.oneCell']; done) | (refine Z.all_one ?_; assumption)) (by first | exact SX.at0 | exact SX.at1 | exact SX.at2 | exact SX.at3 | exact SX.at4 | exact SX.at5 | exact Z.at6 | exact Z.at7 | exact Z.at8 | exact Z.at9 | exact Z.at10 | exact Z.at11 | exact Z.at12) (by first | decide | (simp; done) | (simp; omega)) ?_
  clear hs; intro ws hs
  simp only [Nat.zero_add, Nat.add_zero, Nat.reduceAdd, Int.reduceToNat, Nat.reduceMul, List.set_cons_zero, List.set_cons_succ, List.setIfInBounds_toArray] at hs
  try simp only [Z.putL, Nat.zero_add] at hs
  refine Z.le rfl trivial ?_
  first | refine Z.ZO.store rfl rfl hs Try.sizeOf24 rfl rfl rfl (by first | exact SX.at0 | exact SX.at1 | exact SX.at2 | exact SX.at3 | exact SX.at4 | exact SX.at5 | exact Z.at6 | exact Z.at7 | exact Z.at8 | exact Z.at9 | exact Z.at10 | exact Z.at11 | exact Z.at12) (by first | (simp; done) | (simp; omega)) ?_ | refine Z.ZO.storeR rfl rfl hs Try.sizeOf24 rfl rfl rfl (by first | exact SX.at0 | exact SX.at1 | exact SX.at2 | exact SX.at3 | exact SX.at4 | exact SX.at5 | exact Z.at6 | exact Z.at7 | exact Z.at8 | exact Z.at9 | exact Z.at10 | exact Z.at11 | exact Z.at12) (by first | omega | (simp [ints_length]; done) | (simp [ints_length]; omega)) ?_
  clear hs; intro ws hs
  simp only [Nat.zero_add, Nat.add_zero, Nat.reduceAdd, Int.reduceToNat, Nat.reduceMul, List.set_cons_zero, List.set_cons_succ, List.setIfInBounds_toArray] at hs
  refine Z.lnil ?_
  refine Z.only [2, 3] rfl ?_
  refine Z.nthen ?_
  refine Z.ret ?_
  -- ret#0
  refine Z.outDr Try.call55 (caught_ret g3 _ _ _) ?_
  rintro vD wD ⟨rfl, hy⟩
  replace hs := hs.call hy
  refine ⟨[_, _], (by exact ⟨⟨_, rfl, Z.rvcA hs Try.isAgg51 (by first | ((repeat (first | exact List.mem_cons_self | refine List.mem_cons_of_mem _ ?_ | refine List.mem_append_right _ ?_)); done) | fail) (by exact Try.sizeOf51)⟩, ⟨_, rfl, Z.rvc hs Try.isAgg24 (by first | ((repeat (first | exact List.mem_cons_self | refine List.mem_cons_of_mem _ ?_ | refine List.mem_append_right _ ?_)); done) | fail) rfl⟩, trivial⟩), ?_⟩
  exact ⟨_, rfl, _, rfl, B, co, rfl, hs.sel [0] (by decide)⟩
end Go.Proofs.Ytjejdlolgmhljaa

/- FieldWrites. -/
namespace Go.Proofs.Ytjejdlolgmhljaa
open Go.RowKit
set_option linter.unusedSimpArgs false
set_option linter.unusedVariables false

end Go.Proofs.Ytjejdlolgmhljaa

/- Arguments of any shape, asz they read: integers, slices, structs. -/
namespace Go.Proofs.Ytjejdlolgmhljaa
open Go.ChangeShapes Go.WideShapes Go.ChangeAt Go.RowKit
set_option linter.unusedVariables false
set_option linter.unusedSimpArgs false

/-- the cells cs read asz a value of type t -/
def Rd (P : Program) (W : World) (t : TypeId) (cs : List Value) : Prop :=
  ∃ (H : Type) (enc : TypeId × Value → H) (fuel : Nat) (x : DataW H × List MemPlace), DataW.trod enc P W 0 (fun _ => true) true fuel t cs = some x

variable {P : Program} {W : World} {t e : TypeId} {cs : List Value} {k : IntKind}

theorem Rd.of {H : Type} {enc : TypeId × Value → H} {v : Value} {d : DataW H} {p : List MemPlace} (h : DataW.Trod enc P W 0 (fun _ => true) true t v d p) : Rd P W t v.cells.toList := by
  obtain ⟨fuel, h⟩ := h
  exact ⟨H, enc, fuel, _, h⟩

theorem Rd.int (ht : P.underlying t = some (.int k)) (h : Rd P W t cs) : ∃ n, cs = [.int k n] ∧ (Lit.int k n).wf = true := by
  obtain ⟨H, enc, fuel, x, h⟩ := h
  cases fuel with
  | zero => simp [DataW.trod] at h
  | succ n =>
    unfold DataW.trod at h
    rw [ht] at h
    split at h <;> simp_all
theorem Rd.bool (ht : P.underlying t = some .bool) (h : Rd P W t cs) : ∃ b, cs = [.bool b] := by
  obtain ⟨H, enc, fuel, x, h⟩ := h
  cases fuel with
  | zero => simp [DataW.trod] at h
  | succ n =>
    unfold DataW.trod at h
    rw [ht] at h
    split at h <;> simp_all
theorem Rd.string (ht : P.underlying t = some .string) (h : Rd P W t cs) : ∃ s, cs = [.string s] ∧ s.size ≤ maxLen := by
  obtain ⟨H, enc, fuel, x, h⟩ := h
  cases fuel with
  | zero => simp [DataW.trod] at h
  | succ n =>
    unfold DataW.trod at h
    rw [ht] at h
    split at h <;> simp_all
theorem Rd.field {fs : Array Field} (ht : P.underlying t = some (.struct fs)) (h : Rd P W t cs) :
    cs.length = P.cellsOf t ∧ ∀ (i : Nat) (f : Field), fs[i]? = some f → Rd P W f.type ((cs.drop f.offset).take (P.cellsOf f.type)) := by
  obtain ⟨H, enc, fuel, x, h⟩ := h
  obtain ⟨xs, n, _, _, h1, h2, h3⟩ := DataW.trod_struct ht h
  refine ⟨h1, fun i f hf => ?_⟩
  have h4 := h3 i f hf
  have hi : i < xs.length := by
    rw [h2]
    exact (Array.getElem?_eq_some_iff.1 hf).1
  rw [List.getElem?_eq_getElem hi] at h4
  exact ⟨H, enc, n, _, h4⟩
theorem Rd.array {n : Nat} (ht : P.underlying t = some (.array n e)) (h : Rd P W t cs) :
    cs.length = P.cellsOf t ∧ ∀ i, i < n → Rd P W e ((cs.drop (i * P.cellsOf e)).take (P.cellsOf e)) := by
  obtain ⟨H, enc, fuel, x, h⟩ := h
  cases fuel with
  | zero => simp [DataW.trod] at h
  | succ m =>
    unfold DataW.trod at h
    rw [ht] at h
    simp only at h
    by_cases hl : cs.length = P.cellsOf t
    · rw [if_pos hl] at h
      refine ⟨hl, fun i hi => ?_⟩
      obtain ⟨xs, hx, -⟩ := Option.map_eq_some_iff.1 h
      have : ∀ (l : List Nat) (ys : List (DataW H × List MemPlace)), l.mapM (fun i => DataW.trod enc P W 0 (fun _ => true) true m e ((cs.drop (i * P.cellsOf e)).take (P.cellsOf e))) = some ys → ∀ i ∈ l, ∃ y, DataW.trod enc P W 0 (fun _ => true) true m e ((cs.drop (i * P.cellsOf e)).take (P.cellsOf e)) = some y := by
        intro l
        induction l with
        | nil => intro ys _ i hi; cases hi
        | cons j l ih =>
          intro ys hy i hi
          simp only [List.mapM_cons, Option.bind_eq_bind, Option.bind_eq_some_iff] at hy
          obtain ⟨y, hy1, zs, hz, _⟩ := hy
          rcases List.mem_cons.1 hi with rfl | hi
          · exact ⟨y, hy1⟩
          · exact ih zs hz i hi
      obtain ⟨y, hy⟩ := this _ _ hx i (List.mem_range.2 hi)
      exact ⟨H, enc, m, y, hy⟩
    · rw [if_neg hl] at h; cases h
theorem cells_len {a : Addr} {n : Nat} {r : List Value} (h : W.cells? 0 a n = some r) : r.length = n ∧ ∀ (j : Nat) (u : Value), r[j]? = some u → W.cell? (a.add j) = some u := by
  unfold World.cells? at h
  rw [if_pos (Nat.zero_le _)] at h
  have key : ∀ (l : List Nat) (r : List Value), l.mapM (fun i => W.cell? (a.add i)) = some r → r.length = l.length ∧ ∀ (j : Nat) (u : Value), r[j]? = some u → ∃ i, l[j]? = some i ∧ W.cell? (a.add i) = some u := by
    intro l
    induction l with
    | nil => intro r hr; simp at hr; subst hr; simp
    | cons i l ih =>
      intro r hr
      simp only [List.mapM_cons, Option.bind_eq_bind, Option.bind_eq_some_iff] at hr
      obtain ⟨y, hy, ys, hys, hr⟩ := hr
      obtain rfl : y :: ys = r := by simpa using hr
      obtain ⟨h1, h2⟩ := ih ys hys
      refine ⟨by simp [h1], fun j u hu => ?_⟩
      cases j with
      | zero =>
        obtain rfl : y = u := by simpa using hu
        exact ⟨i, rfl, hy⟩
      | succ j =>
        obtain ⟨i', h3, h4⟩ := h2 j u (by simpa using hu)
        exact ⟨i', by simpa using h3, h4⟩
  obtain ⟨h1, h2⟩ := key _ r h
  refine ⟨by simpa using h1, fun j u hu => ?_⟩
  obtain ⟨i, h3, h4⟩ := h2 j u hu
  have hj : j < n := by
    have := (List.getElem?_eq_some_iff.1 hu).1
    simp at h1
    omega
  rw [List.getElem?_range hj] at h3
  obtain rfl : j = i := by simpa using h3
  exact h4
theorem Rd.slice (ht : P.underlying t = some (.slice e)) (h : Rd P W t cs) :
    cs = [.slice none 0 0] ∨ ∃ (a : Addr) (len cap : Nat) (rows : List (List Value)), cs = [.slice (some a) len cap] ∧ len ≤ cap ∧ cap ≤ maxLen ∧ rows.length = len ∧
      ∀ i r, rows[i]? = some r → W.cells? 0 (a.add (i * P.cellsOf e)) (P.cellsOf e) = some r ∧ Rd P W e r := by
  obtain ⟨H, enc, fuel, x, h⟩ := h
  rcases DataW.trod_slice ht h with ⟨h1, _⟩ | ⟨a, len, cap, elems, rest, n, _, h1, _, _, h2, h3, h4, h5, _⟩
  · exact .inl h1
  · refine .inr ⟨a, len, cap, (List.range len).map fun i => (W.cells? 0 (a.add (i * P.cellsOf e)) (P.cellsOf e)).getD [], h1, h2, h3, by simp, fun i r hr => ?_⟩
    rw [List.getElem?_map] at hr
    obtain ⟨i', hi', hr⟩ := Option.map_eq_some_iff.1 hr
    have hi : i < len := by
      have := (List.getElem?_eq_some_iff.1 hi').1
      simpa using this
    rw [List.getElem?_range hi] at hi'
    obtain rfl : i = i' := by simpa using hi'
    have h6 := h5 i hi
    rw [List.getElem?_eq_getElem (by omega)] at h6
    obtain ⟨r', h7, h8⟩ := Option.bind_eq_some_iff.1 h6
    rw [h7] at hr
    obtain rfl : r' = r := by simpa using hr
    exact ⟨h7, H, enc, n, _, h8⟩

theorem addr_none {a : Addr} {j : Nat} {u : Value} (hj : a.spot.isSome = true → 0 < j) (h : W.cell? (a.add j) = some u) : True := trivial

/-- a slice whose elements decode -/
theorem Rd.rows {α : Type} {A : Option Addr} {n c : Nat} (enc : α → List Value) (Good : α → Prop) (ht : P.underlying t = some (.slice e)) (hpos : 0 < P.cellsOf e)
    (dec : ∀ r, Rd P W e r → ∃ x, r = enc x ∧ Good x) (hsz : ∀ x, (enc x).length = P.cellsOf e) (h : Rd P W t [.slice A n c]) :
    ∃ xs : List α, xs.length = n ∧ n ≤ c ∧ c ≤ maxLen ∧ (∀ x ∈ xs, Good x) ∧ Sl W A (xs.flatMap enc) := by
  rcases Rd.slice ht h with h1 | ⟨a, len, cap, rows, h1, h2, h3, h4, h5⟩
  · simp only [List.cons.injEq, Value.slice.injEq, and_true] at h1
    obtain ⟨rfl, rfl, rfl⟩ := h1
    exact ⟨[], rfl, Nat.le_refl _, Nat.zero_le _, by simp, fun hp => by simp at hp⟩
  · simp only [List.cons.injEq, Value.slice.injEq, and_true] at h1
    obtain ⟨rfl, rfl, rfl⟩ := h1
    have key : ∀ (l : List (List Value)), (∀ r ∈ l, Rd P W e r) → ∃ xs : List α, l = xs.map enc ∧ ∀ x ∈ xs, Good x := by
      intro l
      induction l with
      | nil => intro _; exact ⟨[], rfl, by simp⟩
      | cons r l ih =>
        intro hl
        obtain ⟨x, rfl, hx⟩ := dec r (hl r (by simp))
        obtain ⟨xs, rfl, hxs⟩ := ih (fun r hr => hl r (by simp [hr]))
        exact ⟨x :: xs, rfl, fun y hy => by
          rcases List.mem_cons.1 hy with rfl | hy
          · exact hx
          · exact hxs y hy⟩
    obtain ⟨xs, hxs, hG⟩ := key rows (fun r hr => by
      obtain ⟨i, hi⟩ := List.getElem?_of_mem hr
      exact (h5 i r hi).2)
    have hlen : xs.length = n := by rw [← h4, hxs, List.length_map]
    refine ⟨xs, hlen, h2, h3, hG, fun hp => ?_⟩
    -- the cells, one by one
    have hcell : ∀ (i : Nat) (x : α), xs[i]? = some x → ∀ (j : Nat) (u : Value), (enc x)[j]? = some u → W.cell? ((a.add (i * P.cellsOf e)).add j) = some u := by
      intro i x hx j u hu
      have hr : rows[i]? = some (enc x) := by
        rw [hxs, List.getElem?_map, hx]
        rfl
      exact (cells_len (h5 i _ hr).1).2 j u hu
    have hn0 : 0 < n := by
      rw [← hlen]
      cases xs with
      | nil => simp at hp
      | cons x xs => simp
    -- the address has no spot
    have hspot : a.spot = none := by
      have hx0 : xs[0]? = some (xs[0]'(by omega)) := List.getElem?_eq_getElem (by omega)
      have hl0 := hsz (xs[0]'(by omega))
      have := hcell 0 _ hx0 0 _ (List.getElem?_eq_getElem (by omega))
      have e0 : (a.add (0 * P.cellsOf e)).add 0 = a := by simp [Addr.add]
      rw [e0] at this
      unfold World.cell? at this
      split at this
      · cases hs : a.spot with
        | none => rfl
        | some s => simp [hs] at this
      · cases this
    obtain ⟨b, off, sp⟩ := a
    simp only at hspot
    subst hspot
    have hadd : ∀ o m, (⟨b, o, none⟩ : Addr).add m = ⟨b, o + m, none⟩ := fun o m => by
      unfold Addr.add
      split
      · rename_i h; rw [h]; rfl
      · rfl
    have hall : ∀ (ys : List α) (i : Nat), (∀ j, j < ys.length → xs[i + j]? = ys[j]?) → i + ys.length ≤ n → ∀ m u, (ys.flatMap enc)[m]? = some u → W.cell? ⟨b, off + (i * P.cellsOf e + m), none⟩ = some u := by
      intro ys
      induction ys with
      | nil => intro i _ _ m u hu; simp at hu
      | cons y ys ih =>
        intro i hy hle m u hu
        simp only [List.length_cons] at hle
        rw [List.flatMap_cons] at hu
        have hyl := hsz y
        by_cases hm : m < P.cellsOf e
        · rw [List.getElem?_append_left (by omega)] at hu
          have h0 := hy 0 (by simp)
          simp at h0
          have := hcell i y h0 m u hu
          rw [hadd, hadd] at this
          rw [← Nat.add_assoc]
          exact this
        · rw [List.getElem?_append_right (by omega), hyl] at hu
          have := ih (i + 1) (fun j hj => by
            have := hy (j + 1) (by simp; omega)
            rw [show i + 1 + j = i + (j + 1) from by omega, this]
            simp) (by omega) (m - P.cellsOf e) u hu
          rw [Nat.add_mul, Nat.one_mul] at this
          rw [show i * P.cellsOf e + m = i * P.cellsOf e + P.cellsOf e + (m - P.cellsOf e) from by omega]
          exact this
    have hfin := hall xs 0 (fun j _ => by simp) (by omega)
    simp only [Nat.zero_mul, Nat.zero_add] at hfin
    refine ⟨b, off, rfl, ?_, fun j u hu => hfin j u hu⟩
    have hpp : 0 < (xs.flatMap enc).length := hp
    have := hfin 0 _ (List.getElem?_eq_getElem hpp)
    exact World.block_lt_of_cell? _ _ this
theorem list1 {α : Type} {l : List α} (h : l.length = 1) : ∃ a, l = [a] := by
  match l, h with
  | [a], _ => exact ⟨a, rfl⟩
theorem list2 {α : Type} {l : List α} (h : l.length = 2) : ∃ a b, l = [a, b] := by
  match l, h with
  | [a, b], _ => exact ⟨a, b, rfl⟩
theorem list3 {α : Type} {l : List α} (h : l.length = 3) : ∃ a b c, l = [a, b, c] := by
  match l, h with
  | [a, b, c], _ => exact ⟨a, b, c, rfl⟩
theorem list4 {α : Type} {l : List α} (h : l.length = 4) : ∃ a b c d, l = [a, b, c, d] := by
  match l, h with
  | [a, b, c, d], _ => exact ⟨a, b, c, d, rfl⟩
theorem list5 {α : Type} {l : List α} (h : l.length = 5) : ∃ a b c d e, l = [a, b, c, d, e] := by
  match l, h with
  | [a, b, c, d, e], _ => exact ⟨a, b, c, d, e, rfl⟩
theorem list6 {α : Type} {l : List α} (h : l.length = 6) : ∃ a b c d e f, l = [a, b, c, d, e, f] := by
  match l, h with
  | [a, b, c, d, e, f], _ => exact ⟨a, b, c, d, e, f, rfl⟩
theorem wf_bd {n : Int} (h : (Lit.int k n).wf = true) : k.min ≤ n ∧ n ≤ k.max := by
  simpa [Lit.wf] using h
theorem wf_u8 {n : Int} (h : (Lit.int .u8 n).wf = true) : 0 ≤ n ∧ n ≤ 255 := wf_bd h
theorem wf_i64 {n : Int} (h : (Lit.int .i64 n).wf = true) : -9223372036854775808 ≤ n ∧ n ≤ 9223372036854775807 := wf_bd h
theorem wf_u64 {n : Int} (h : (Lit.int .u64 n).wf = true) : 0 ≤ n ∧ n ≤ 18446744073709551615 := wf_bd h
end Go.Proofs.Ytjejdlolgmhljaa
