/- Part 3 of the proofs that lead to the statement. -/
import Derived.Test.YtogjkgoiofngaaaY2
import Derived.Test.YtogjkgoiofngaaaRows
/- Bits, fields and bytes: plain facts. -/
namespace Go.Proofs.Ytogjkgoiofngaaa
set_option linter.unusedVariables false
set_option linter.unusedSimpArgs false

def bi (b : Bool) : Int := if b then 1 else 0
def bits (bs : List Bool) : List Int := bs.map bi
def bt (bs : List Bool) (i : Nat) : Bool := bs.getD i false
def bn (bs : List Bool) (i : Nat) : Nat := (bt bs i).toNat
/-- byte j of packed bits -/
def byt (bs : List Bool) (j : Nat) : Nat := 128 * bn bs (8 * j) + 64 * bn bs (8 * j + 1) + 32 * bn bs (8 * j + 2) + 16 * bn bs (8 * j + 3) + 8 * bn bs (8 * j + 4) + 4 * bn bs (8 * j + 5) + 2 * bn bs (8 * j + 6) + bn bs (8 * j + 7)
def pkn (bs : List Bool) (m : Nat) : List Int := (List.range m).map fun j => (byt bs j : Int)
/-- packed bits -/
def pk (bs : List Bool) : List Int := pkn bs ((bs.length + 7) / 8)

theorem bn_le (bs : List Bool) (i : Nat) : bn bs i ≤ 1 := by unfold bn; cases bt bs i <;> simp
theorem byt_lt (bs : List Bool) (j : Nat) : byt bs j < 256 := by
  have h := bn_le bs
  have h0 := h (8 * j); have h1 := h (8 * j + 1); have h2 := h (8 * j + 2); have h3 := h (8 * j + 3)
  have h4 := h (8 * j + 4); have h5 := h (8 * j + 5); have h6 := h (8 * j + 6); have h7 := h (8 * j + 7)
  unfold byt
  omega
theorem bn_out {bs : List Bool} {i : Nat} (h : bs.length ≤ i) : bn bs i = 0 := by
  unfold bn bt
  rw [List.getD_eq_getElem?_getD, List.getElem?_eq_none h]
  rfl
theorem bn_app_lt {bs cs : List Bool} {i : Nat} (h : i < bs.length) : bn (bs ++ cs) i = bn bs i := by
  unfold bn bt
  rw [List.getD_eq_getElem?_getD, List.getD_eq_getElem?_getD, List.getElem?_append_left h]
theorem bn_app_ge {bs cs : List Bool} {i : Nat} : bn (bs ++ cs) (bs.length + i) = bn cs i := by
  unfold bn bt
  rw [List.getD_eq_getElem?_getD, List.getD_eq_getElem?_getD, List.getElem?_append_right (by omega)]
  congr 3
  omega
theorem bn_snoc {bs : List Bool} {b : Bool} {i : Nat} : bn (bs ++ [b]) i = if i = bs.length then b.toNat else bn bs i := by
  by_cases h : i < bs.length
  · rw [bn_app_lt h, if_neg (by omega)]
  · by_cases h2 : i = bs.length
    · subst h2
      rw [if_pos rfl]
      have := bn_app_ge (bs := bs) (cs := [b]) (i := 0)
      rw [Nat.add_zero] at this
      rw [this]
      rfl
    · rw [if_neg h2, bn_out (by simp; omega), bn_out (by omega)]
@[simp] theorem pkn_length (bs : List Bool) (m : Nat) : (pkn bs m).length = m := by simp [pkn]
theorem pk_length (bs : List Bool) : (pk bs).length = (bs.length + 7) / 8 := by simp [pk, pkn_length]
@[simp] theorem bits_length (bs : List Bool) : (bits bs).length = bs.length := by simp [bits]

/-- byte q, where the next bit goes -/
theorem byt_snoc_ne {bs : List Bool} {b : Bool} {j : Nat} (h : j ≠ bs.length / 8) : byt (bs ++ [b]) j = byt bs j := by
  have e : ∀ i, 8 * j ≤ i → i < 8 * j + 8 → bn (bs ++ [b]) i = bn bs i := fun i h1 h2 => by
    rw [bn_snoc, if_neg (by omega)]
  unfold byt
  rw [e (8 * j) (by omega) (by omega), e (8 * j + 1) (by omega) (by omega), e (8 * j + 2) (by omega) (by omega), e (8 * j + 3) (by omega) (by omega),
    e (8 * j + 4) (by omega) (by omega), e (8 * j + 5) (by omega) (by omega), e (8 * j + 6) (by omega) (by omega), e (8 * j + 7) (by omega) (by omega)]
theorem byt_snoc {bs : List Bool} {b : Bool} : byt (bs ++ [b]) (bs.length / 8) = byt bs (bs.length / 8) + b.toNat * 2 ^ (7 - bs.length % 8) ∧ 2 ^ (8 - bs.length % 8) ∣ byt bs (bs.length / 8) := by
  obtain ⟨q, r, hr, hl⟩ : ∃ q r, r < 8 ∧ bs.length = 8 * q + r := ⟨bs.length / 8, bs.length % 8, by omega, by omega⟩
  have e1 : bs.length / 8 = q := by omega
  have e2 : bs.length % 8 = r := by omega
  rw [e1, e2]
  have hb : b.toNat ≤ 1 := by cases b <;> simp
  have hs : ∀ i, bn (bs ++ [b]) i = if i = 8 * q + r then b.toNat else bn bs i := fun i => by rw [bn_snoc, hl]
  have ho : ∀ i, 8 * q + r ≤ i → bn bs i = 0 := fun i hi => bn_out (by omega)
  unfold byt
  have h8 : r = 0 ∨ r = 1 ∨ r = 2 ∨ r = 3 ∨ r = 4 ∨ r = 5 ∨ r = 6 ∨ r = 7 := by omega
  rcases h8 with rfl | rfl | rfl | rfl | rfl | rfl | rfl | rfl <;> simp only [hs] <;> (refine ⟨?_, ?_⟩)
  all_goals first
    | (simp; simp [ho]; omega)
    | (simp [ho]; done)
    | (simp [ho]; omega)
    | skip

theorem pkn_set {bs : List Bool} {b : Bool} {m : Nat} (hm : bs.length / 8 < m) : (pkn bs m).set (bs.length / 8) ((byt (bs ++ [b]) (bs.length / 8) : Nat) : Int) = pkn (bs ++ [b]) m := by
  apply List.ext_getElem?
  intro i
  simp only [pkn, List.getElem?_set, List.length_map, List.length_range, List.getElem?_map]
  by_cases h : bs.length / 8 = i
  · subst h
    simp [hm]
  · rw [if_neg h]
    by_cases hi : i < m
    · rw [List.getElem?_range hi]
      simp only [Option.map_some]
      rw [byt_snoc_ne (Ne.symm h)]
    · rw [List.getElem?_eq_none (by simpa using hi)]
      rfl
theorem byt_out {bs : List Bool} {j : Nat} (h : bs.length ≤ 8 * j) : byt bs j = 0 := by
  unfold byt
  rw [bn_out h, bn_out (by omega), bn_out (by omega), bn_out (by omega), bn_out (by omega), bn_out (by omega), bn_out (by omega), bn_out (by omega)]
theorem pkn_succ (bs : List Bool) (m : Nat) : pkn bs (m + 1) = pkn bs m ++ [(byt bs m : Int)] := by simp [pkn, List.range_succ]
/-- where a byte begins -/
theorem pk_grow {bs : List Bool} (h : bs.length % 8 = 0) : pk bs ++ [0] = pkn bs (bs.length / 8 + 1) := by
  unfold pk
  rw [show (bs.length + 7) / 8 = bs.length / 8 from by omega, pkn_succ, byt_out (by omega)]
  rfl
theorem pk_same {bs : List Bool} (h : bs.length % 8 ≠ 0) : pk bs = pkn bs (bs.length / 8 + 1) := by
  unfold pk
  rw [show (bs.length + 7) / 8 = bs.length / 8 + 1 from by omega]
theorem pk_snoc {bs : List Bool} {b : Bool} : (pkn bs (bs.length / 8 + 1)).set (bs.length / 8) ((byt (bs ++ [b]) (bs.length / 8) : Nat) : Int) = pk (bs ++ [b]) := by
  rw [pkn_set (by omega)]
  unfold pk
  congr 1
  simp
  omega

theorem u8_or (x y : Nat) (i m : Nat) (hx : x = 2 ^ i * m) (hy : y < 2 ^ i) (h : x + y < 256) : IntKind.u8.wrap ((BitVec.ofInt 8 (x : Int) ||| BitVec.ofInt 8 (y : Int)).toNat : Int) = ((x + y : Nat) : Int) := by
  have e1 : (BitVec.ofInt 8 (x : Int)).toNat = x := by rw [BitVec.ofInt_natCast, BitVec.toNat_ofNat]; exact Nat.mod_eq_of_lt (by omega)
  have e2 : (BitVec.ofInt 8 (y : Int)).toNat = y := by rw [BitVec.ofInt_natCast, BitVec.toNat_ofNat]; exact Nat.mod_eq_of_lt (by omega)
  rw [BitVec.toNat_or, e1, e2, hx, ← Nat.two_pow_add_eq_or_of_lt hy, ← hx]
  exact Z.wu8 (by omega)
theorem bi_nat (b : Bool) : bi b = (b.toNat : Int) := by cases b <;> rfl
theorem bi_bd (b : Bool) : 0 ≤ bi b ∧ bi b ≤ 1 := by cases b <;> simp [bi]
/-- the or of a byte with its next bit -/
theorem or_byt (bs : List Bool) (b : Bool) : IntKind.u8.wrap ((BitVec.ofInt IntKind.u8.bits (byt bs (bs.length / 8) : Int) ||| BitVec.ofInt IntKind.u8.bits (bi b * 2 ^ (7 - bs.length % 8))).toNat : Int) = (byt (bs ++ [b]) (bs.length / 8) : Int) := by
  obtain ⟨h1, m, h2⟩ := byt_snoc (bs := bs) (b := b)
  have h3 := byt_lt (bs ++ [b]) (bs.length / 8)
  have hr : bs.length % 8 < 8 := Nat.mod_lt _ (by decide)
  have e : bi b * 2 ^ (7 - bs.length % 8) = ((b.toNat * 2 ^ (7 - bs.length % 8) : Nat) : Int) := by rw [bi_nat]; push_cast; rfl
  rw [e, h1]
  refine u8_or _ _ (8 - bs.length % 8) m h2 ?_ (by omega)
  have hb : b.toNat ≤ 1 := by cases b <;> simp
  have hp : 2 ^ (8 - bs.length % 8) = 2 * 2 ^ (7 - bs.length % 8) := by
    rw [show 8 - bs.length % 8 = (7 - bs.length % 8) + 1 from by omega, Nat.pow_succ, Nat.mul_comm]
  have hpos : 0 < 2 ^ (7 - bs.length % 8) := Nat.pow_pos (by decide)
  have := Nat.mul_le_mul_right (2 ^ (7 - bs.length % 8)) hb
  omega

/-- the bits of a field -/
def fld (v : Nat) : Nat → List Bool
  | 0 => []
  | w + 1 => v.testBit w :: fld v w
theorem fld_length (v : Nat) : ∀ w, (fld v w).length = w
  | 0 => rfl
  | w + 1 => by simp [fld, fld_length v w]
theorem fld_get (v : Nat) : ∀ (w i : Nat), i < w → (fld v w)[i]? = some (v.testBit (w - 1 - i))
  | 0, i, h => by omega
  | w + 1, 0, h => by simp [fld]
  | w + 1, i + 1, h => by
    have := fld_get v w i (by omega)
    simp only [fld, List.getElem?_cons_succ, this]
    congr 2
    omega
theorem testBit_bi (v i : Nat) : bi (v.testBit i) = ((v / 2 ^ i % 2 : Nat) : Int) := by
  rw [Nat.testBit_eq_decide_div_mod_eq]
  have : v / 2 ^ i % 2 = 0 ∨ v / 2 ^ i % 2 = 1 := by omega
  rcases this with h | h <;> simp [bi, h]
end Go.Proofs.Ytogjkgoiofngaaa

/- The writer: add. -/
namespace Go.Proofs.Ytogjkgoiofngaaa
open Go.RowKit
set_option linter.unusedSimpArgs false
set_option linter.unusedVariables false
theorem mixed : Try.prog.follows .mixedOrders = true := by kernel_rfl

/-- a writer at block g that holds the bits bs -/
def WrL (g T : Nat) (sv : Value) (bs : List Bool) : List SX.Ent := [SX.Ent.blk g T #[sv, .int .i64 (bs.length : Int)], SX.Ent.row sv 5 1 (pk bs).length (ints .u8 (pk bs))]

theorem elt_pkn {bs : List Bool} {m j : Nat} (h : j < m) : elt (pkn bs m) (j : Int) = (byt bs j : Int) := by
  simp [elt, pkn, h]
theorem pkn_at {bs : List Bool} {m j : Nat} {i : Int} (hi : i = (j : Int)) (h : j < m) : (ints .u8 (pkn bs m))[0 + i.toNat * 1]? = some (.int .u8 (byt bs j : Int)) := by
  subst hi
  have := Z.ints_at (k := .u8) (l := pkn bs m) (i := (j : Int)) (by omega) (by rw [pkn_length]; omega)
  rwa [elt_pkn h] at this
theorem shl_bit (b : Bool) (r : Nat) (hr : r < 8) : IntKind.u8.wrap (bi b * 2 ^ (min ((7 : Int) - (r : Int)).toNat IntKind.u8.bits)) = bi b * 2 ^ (7 - r) := by
  have h8 : r = 0 ∨ r = 1 ∨ r = 2 ∨ r = 3 ∨ r = 4 ∨ r = 5 ∨ r = 6 ∨ r = 7 := by omega
  rcases h8 with rfl | rfl | rfl | rfl | rfl | rfl | rfl | rfl <;> cases b <;> decide
theorem set_byt (bs : List Bool) (b : Bool) : (ints .u8 (pkn bs (bs.length / 8 + 1))).set (((bs.length : Int) / 8).toNat * 1) (.int .u8 (byt (bs ++ [b]) (bs.length / 8) : Nat)) = ints .u8 (pk (bs ++ [b])) := by
  have e : (((bs.length : Int) / 8).toNat * 1) = bs.length / 8 := by omega
  rw [e, ← pk_snoc]
  simp only [ints]
  rw [List.map_set]

set_option maxRecDepth 100000 in
theorem add_any (g T : Nat) (sv : Value) (bs : List Bool) (b : Bool) (w : World) (hs : SX.St w (SX.idsOf (WrL g T sv bs)) w (WrL g T sv bs)) (hb : bs.length ≤ 10000000) :
    Calls Try.prog 61 #[.pointer (some ⟨g, 0, none⟩), .int .u8 (bi b)] w (SX.Ret fun v w' => ∃ sv', v = .tuple #[] ∧ SX.St w (SX.idsOf (WrL g T sv bs)) w' (WrL g T sv' (bs ++ [b]))) := by
  have hpl : (pk bs).length ≤ 2000000 := by rw [pk_length]; omega
  have hbb := bi_bd b
  generalize SX.idsOf (WrL g T sv bs) = M at *
  simp only [WrL] at hs
  refine Z.enter Try.func61 rfl Try.ntmps61 rfl rfl ?_
  refine Z.seq ?_
  refine Z.seq ?_
  refine Z.region ?_
  refine Z.lb 1 rfl ?_
  refine Z.l rfl rfl (by rfl) (Z.keepS hs) (Z.Yd.nilc rfl rfl) ?_
  refine Z.l rfl rfl (by rfl) (Z.keepS hs) (Z.Yd.fieldA (m := 1) rfl (by kernel_rfl)) ?_
  refine Z.l rfl rfl (by rfl) (Z.keepS hs) (by first | exact Z.Yd.load rfl Try.isAgg3 (fun _ => Z.cellB (by first | ((repeat (first | exact List.mem_cons_self | refine List.mem_cons_of_mem _ ?_ | refine List.mem_append_right _ ?_)); done) | fail) rfl) | exact Z.Yd.load rfl Try.isAgg3 (fun _ => Z.cellO (by assumption) (by simp) (by assumption)) | fail "load 0.3") ?_
  refine Z.l rfl rfl (by rfl) (Z.keepS hs) (Z.Yd.rem rfl rfl (by intro hG; first | decide | omega) (by intro hG; first | exact Z.tmodn (by omega) | exact rfl)) ?_
  refine Z.lb 1 rfl ?_
  refine Z.lnil ?_
  refine Z.only [0, 1, 9] rfl ?_
  refine Z.nthen ?_
  refine Z.cutt (ι := Value) [0, 1] rfl (fun _ => []) (fun sv1 wr => SX.St w M wr [SX.Ent.blk g T #[sv1, .int .i64 (bs.length : Int)], SX.Ent.row sv1 5 1 (bs.length / 8 + 1) (ints .u8 (pkn bs (bs.length / 8 + 1)))]) ?_ ?_
  · skip
    refine Z.cond rfl (fun hc0 => ?_) (fun hc0 => ?_)
    · first
        | (exfalso; simp at hc0 <;> omega)
        | (
          (try simp at hc0)
          refine Z.region ?_
          refine Z.lb 2 rfl ?_
          refine Z.l rfl rfl (by rfl) (Z.keepS hs) (Z.Yd.nilc rfl rfl) ?_
          refine Z.l rfl rfl (by rfl) (Z.keepS hs) (Z.Yd.fieldA (m := 0) rfl (by kernel_rfl)) ?_
          refine Z.l rfl rfl (by rfl) (Z.keepS hs) (by first | exact Z.Yd.load rfl Try.isAgg26 (fun _ => Z.cellB (by first | ((repeat (first | exact List.mem_cons_self | refine List.mem_cons_of_mem _ ?_ | refine List.mem_append_right _ ?_)); done) | fail) rfl) | exact Z.Yd.load rfl Try.isAgg26 (fun _ => Z.cellO (by assumption) (by simp) (by assumption)) | fail "load 1.4") ?_
          refine Z.le rfl trivial ?_
          refine Z.ZO.lit rfl rfl (by rfl) rfl (by intro W; go_simp; exact rfl) hs ?_
          clear hs; intro g15 w15 hs
          refine Z.le rfl trivial ?_
          refine Z.ZO.append (i0 := Try.t5) (size := 1) (bytes := 1) rfl rfl (by rfl) hs Try.underlying26 (by kernel_rfl) rfl rfl rfl rfl (by decide) rfl rfl (by first | exact SX.at0 | exact SX.at1 | exact SX.at2 | exact SX.at3 | exact SX.at4 | exact SX.at5 | exact Z.at6 | exact Z.at7 | exact Z.at8 | exact Z.at9 | exact Z.at10 | exact Z.at11 | exact Z.at12) (by first | exact SX.at0 | exact SX.at1 | exact SX.at2 | exact SX.at3 | exact SX.at4 | exact SX.at5 | exact Z.at6 | exact Z.at7 | exact Z.at8 | exact Z.at9 | exact Z.at10 | exact Z.at11 | exact Z.at12) (by first | rfl | simp) (by simp [Value.oneCell']) (by decide) (by unfold maxLen; omega) (by omega) ?_
          clear hs; intro g16 cap16 w16 hs
          simp only [List.set_cons_zero, List.set_cons_succ, List.eraseIdx_cons_zero, List.eraseIdx_cons_succ] at hs
          refine Z.l rfl rfl (by rfl) (Z.keepS hs) (Z.Yd.nilc rfl rfl) ?_
          refine Z.l rfl rfl (by rfl) (Z.keepS hs) (Z.Yd.fieldA (m := 0) rfl (by kernel_rfl)) ?_
          refine Z.le rfl trivial ?_
          first | refine Z.ZO.store rfl rfl hs Try.sizeOf26 rfl rfl rfl (by first | exact SX.at0 | exact SX.at1 | exact SX.at2 | exact SX.at3 | exact SX.at4 | exact SX.at5 | exact Z.at6 | exact Z.at7 | exact Z.at8 | exact Z.at9 | exact Z.at10 | exact Z.at11 | exact Z.at12) (by first | (simp; done) | (simp; omega)) ?_ | refine Z.ZO.storeR rfl rfl hs Try.sizeOf26 rfl rfl rfl (by first | exact SX.at0 | exact SX.at1 | exact SX.at2 | exact SX.at3 | exact SX.at4 | exact SX.at5 | exact Z.at6 | exact Z.at7 | exact Z.at8 | exact Z.at9 | exact Z.at10 | exact Z.at11 | exact Z.at12) (by first | omega | (simp [ints_length]; done) | (simp [ints_length]; omega)) ?_
          clear hs; intro ws hs
          simp only [Nat.zero_add, Nat.add_zero, Nat.reduceAdd, Int.reduceToNat, Nat.reduceMul, List.set_cons_zero, List.set_cons_succ, List.setIfInBounds_toArray] at hs
          refine Z.lnil ?_
          refine Z.only [0, 1] rfl ?_
          refine Z.nthen ?_
          first
          | (have e := pk_same (bs := bs) (by omega)
             exact Z.meet _ (by refine ⟨?_, ?_, trivial⟩ <;> rfl) (by rw [e, pkn_length] at hs; exact hs))
          | (have e := pk_grow (bs := bs) (by omega)
             have e2 := pk_length bs
             rw [show (pk bs).length + 1 = bs.length / 8 + 1 from by omega] at hs
             have e3 : ints .u8 (pk bs) ++ [.int .u8 0] = ints .u8 (pkn bs (bs.length / 8 + 1)) := by rw [← e]; simp [ints]
             rw [e3] at hs
             exact Z.meet _ (by refine ⟨?_, ?_, trivial⟩ <;> rfl) hs)
          )
    · first
        | (exfalso; simp at hc0 <;> omega)
        | (
          (try simp at hc0)
          refine Z.skip ?_
          refine Z.nthen ?_
          first
          | (have e := pk_same (bs := bs) (by omega)
             exact Z.meet _ (by refine ⟨?_, ?_, trivial⟩ <;> rfl) (by rw [e, pkn_length] at hs; exact hs))
          | (have e := pk_grow (bs := bs) (by omega)
             have e2 := pk_length bs
             rw [show (pk bs).length + 1 = bs.length / 8 + 1 from by omega] at hs
             have e3 : ints .u8 (pk bs) ++ [.int .u8 0] = ints .u8 (pkn bs (bs.length / 8 + 1)) := by rw [← e]; simp [ints]
             rw [e3] at hs
             exact Z.meet _ (by refine ⟨?_, ?_, trivial⟩ <;> rfl) hs)
          )
  · clear hs
    rintro sv1 w1 hs
    refine Z.only [0, 1] rfl ?_
    obtain ⟨g1, cap1, rfl, hc1, hc2⟩ := row_form (j := 1) hs rfl (by omega)
    refine Z.seq ?_
    refine Z.drawK (fun j => j != 21) mixed hs ?_
    clear hs; intro wd2 hs
    refine Z.tb [0] (by kernel_rfl) rfl ⟨_, hs, by first | (simp; done) | exact fun e he => List.mem_append_right _ he⟩ rfl ?_
    refine Z.t 1 rfl rfl rfl (by rfl) (by kernel_rfl) ⟨_, hs, by first | (simp; done) | exact fun e he => List.mem_append_right _ he⟩ (Z.Yd.nilc rfl rfl) ?_
    refine Z.t 2 rfl rfl rfl (by rfl) (by kernel_rfl) ⟨_, hs, by first | (simp; done) | exact fun e he => List.mem_append_right _ he⟩ (Z.Yd.fieldA (m := 0) rfl (by kernel_rfl)) ?_
    refine Z.t 3 rfl rfl rfl (by rfl) (by kernel_rfl) ⟨_, hs, by first | (simp; done) | exact fun e he => List.mem_append_right _ he⟩ (by first | exact Z.Yd.load rfl Try.isAgg26 (fun _ => Z.cellB (by first | ((repeat (first | exact List.mem_cons_self | refine List.mem_cons_of_mem _ ?_ | refine List.mem_append_right _ ?_)); done) | fail) rfl) | exact Z.Yd.load rfl Try.isAgg26 (fun _ => Z.cellO (by assumption) (by simp) (by assumption)) | fail "load 2.3") ?_
    refine Z.tb [4] (by kernel_rfl) rfl ⟨_, hs, by first | (simp; done) | exact fun e he => List.mem_append_right _ he⟩ rfl ?_
    refine Z.t 5 rfl rfl rfl (by rfl) (by kernel_rfl) ⟨_, hs, by first | (simp; done) | exact fun e he => List.mem_append_right _ he⟩ (Z.Yd.nilc rfl rfl) ?_
    refine Z.t 6 rfl rfl rfl (by rfl) (by kernel_rfl) ⟨_, hs, by first | (simp; done) | exact fun e he => List.mem_append_right _ he⟩ (Z.Yd.fieldA (m := 1) rfl (by kernel_rfl)) ?_
    refine Z.t 7 rfl rfl rfl (by rfl) (by kernel_rfl) ⟨_, hs, by first | (simp; done) | exact fun e he => List.mem_append_right _ he⟩ (by first | exact Z.Yd.load rfl Try.isAgg3 (fun _ => Z.cellB (by first | ((repeat (first | exact List.mem_cons_self | refine List.mem_cons_of_mem _ ?_ | refine List.mem_append_right _ ?_)); done) | fail) rfl) | exact Z.Yd.load rfl Try.isAgg3 (fun _ => Z.cellO (by assumption) (by simp) (by assumption)) | fail "load 2.7") ?_
    refine Z.t 8 rfl rfl rfl (by rfl) (by kernel_rfl) ⟨_, hs, by first | (simp; done) | exact fun e he => List.mem_append_right _ he⟩ (Z.Yd.quo rfl rfl (by intro hG; first | decide | omega) (by intro hG; first | exact Z.qi64 ⟨by omega, by omega⟩ (by omega) | exact rfl)) ?_
    refine Z.t 9 rfl rfl rfl (by rfl) (by kernel_rfl) ⟨_, hs, by first | (simp; done) | exact fun e he => List.mem_append_right _ he⟩ (Z.Yd.elem rfl rfl Try.underlying26 Try.sizeOf5 (fun hG => ⟨(by first | omega | (have hG' := Z.gh rfl hG; simp at hG'; omega)), (by first | omega | (have hG' := Z.gh rfl hG; simp at hG'; omega))⟩)) ?_
    refine Z.t 10 rfl rfl rfl (by rfl) (by kernel_rfl) ⟨_, hs, by first | (simp; done) | exact fun e he => List.mem_append_right _ he⟩ (Z.Yd.load rfl Try.isAgg5 (fun _ => Z.cellR (by first | ((repeat (first | exact List.mem_cons_self | refine List.mem_cons_of_mem _ ?_ | refine List.mem_append_right _ ?_)); done) | fail) (pkn_at (j := bs.length / 8) (by omega) (by omega)))) ?_
    refine Z.tb [11, 12] (by kernel_rfl) rfl ⟨_, hs, by first | (simp; done) | exact fun e he => List.mem_append_right _ he⟩ rfl ?_
    refine Z.t 13 rfl rfl rfl (by rfl) (by kernel_rfl) ⟨_, hs, by first | (simp; done) | exact fun e he => List.mem_append_right _ he⟩ (Z.Yd.nilc rfl rfl) ?_
    refine Z.t 14 rfl rfl rfl (by rfl) (by kernel_rfl) ⟨_, hs, by first | (simp; done) | exact fun e he => List.mem_append_right _ he⟩ (Z.Yd.fieldA (m := 1) rfl (by kernel_rfl)) ?_
    refine Z.t 15 rfl rfl rfl (by rfl) (by kernel_rfl) ⟨_, hs, by first | (simp; done) | exact fun e he => List.mem_append_right _ he⟩ (by first | exact Z.Yd.load rfl Try.isAgg3 (fun _ => Z.cellB (by first | ((repeat (first | exact List.mem_cons_self | refine List.mem_cons_of_mem _ ?_ | refine List.mem_append_right _ ?_)); done) | fail) rfl) | exact Z.Yd.load rfl Try.isAgg3 (fun _ => Z.cellO (by assumption) (by simp) (by assumption)) | fail "load 2.15") ?_
    refine Z.t 16 rfl rfl rfl (by rfl) (by kernel_rfl) ⟨_, hs, by first | (simp; done) | exact fun e he => List.mem_append_right _ he⟩ (Z.Yd.rem rfl rfl (by intro hG; first | decide | omega) (by intro hG; first | exact Z.tmodn (by omega) | exact rfl)) ?_
    refine Z.t 17 rfl rfl rfl (by rfl) (by kernel_rfl) ⟨_, hs, by first | (simp; done) | exact fun e he => List.mem_append_right _ he⟩ (Z.Yd.sub rfl rfl (fun hG => Z.wi64 (by first | omega | (have hG' := Z.gh rfl hG; simp at hG'; omega)))) ?_
    refine Z.t 18 rfl rfl rfl (by rfl) (by kernel_rfl) ⟨_, hs, by first | (simp; done) | exact fun e he => List.mem_append_right _ he⟩ (Z.Yd.shl rfl rfl (by intro hG; first | decide | omega) (fun _ => shl_bit b (bs.length % 8) (by omega))) ?_
    refine Z.t 19 rfl rfl rfl (by rfl) (by kernel_rfl) ⟨_, hs, by first | (simp; done) | exact fun e he => List.mem_append_right _ he⟩ (Z.Yd.or rfl rfl (fun _ => or_byt bs b)) ?_
    refine Z.t 20 rfl rfl rfl (by rfl) (by kernel_rfl) ⟨_, hs, by first | (simp; done) | exact fun e he => List.mem_append_right _ he⟩ (Z.Yd.elem rfl rfl Try.underlying26 Try.sizeOf5 (fun hG => ⟨(by first | omega | (have hG' := Z.gh rfl hG; simp at hG'; omega)), (by first | omega | (have hG' := Z.gh rfl hG; simp at hG'; omega))⟩)) ?_
    refine Z.tn 21 rfl rfl (by kernel_rfl) rfl trivial ?_
    first | refine Z.ZO.store rfl rfl hs Try.sizeOf5 rfl rfl rfl (by first | exact SX.at0 | exact SX.at1 | exact SX.at2 | exact SX.at3 | exact SX.at4 | exact SX.at5 | exact Z.at6 | exact Z.at7 | exact Z.at8 | exact Z.at9 | exact Z.at10 | exact Z.at11 | exact Z.at12) (by first | (simp; done) | (simp; omega)) ?_ | refine Z.ZO.storeR rfl rfl hs Try.sizeOf5 rfl rfl rfl (by first | exact SX.at0 | exact SX.at1 | exact SX.at2 | exact SX.at3 | exact SX.at4 | exact SX.at5 | exact Z.at6 | exact Z.at7 | exact Z.at8 | exact Z.at9 | exact Z.at10 | exact Z.at11 | exact Z.at12) (by first | omega | (simp [ints_length]; done) | (simp [ints_length]; omega)) ?_
    clear hs; intro ws hs
    simp only [Nat.zero_add, Nat.add_zero, Nat.reduceAdd, Int.reduceToNat, Nat.reduceMul, List.set_cons_zero, List.set_cons_succ, List.setIfInBounds_toArray] at hs
    refine Z.tk (Dn := fun j => j != 21) (i := 21) (fun h => absurd h (by decide)) ?_
    refine Z.td (by rfl) (by kernel_rfl) ?_
    refine Z.only [0] rfl ?_
    rw [set_byt] at hs
    refine Z.nthen ?_
    refine Z.region ?_
    refine Z.lb 1 rfl ?_
    refine Z.l rfl rfl (by rfl) (Z.keepS hs) (Z.Yd.nilc rfl rfl) ?_
    refine Z.l rfl rfl (by rfl) (Z.keepS hs) (Z.Yd.fieldA (m := 1) rfl (by kernel_rfl)) ?_
    refine Z.l rfl rfl (by rfl) (Z.keepS hs) (by first | exact Z.Yd.load rfl Try.isAgg3 (fun _ => Z.cellB (by first | ((repeat (first | exact List.mem_cons_self | refine List.mem_cons_of_mem _ ?_ | refine List.mem_append_right _ ?_)); done) | fail) rfl) | exact Z.Yd.load rfl Try.isAgg3 (fun _ => Z.cellO (by assumption) (by simp) (by assumption)) | fail "load 3.3") ?_
    refine Z.l rfl rfl (by rfl) (Z.keepS hs) (Z.Yd.add rfl rfl (fun hG => Z.wi64 (by first | omega | (have hG' := Z.gh rfl hG; simp at hG'; omega)))) ?_
    refine Z.l rfl rfl (by rfl) (Z.keepS hs) (Z.Yd.nilc rfl rfl) ?_
    refine Z.l rfl rfl (by rfl) (Z.keepS hs) (Z.Yd.fieldA (m := 1) rfl (by kernel_rfl)) ?_
    refine Z.le rfl trivial ?_
    first | refine Z.ZO.store rfl rfl hs Try.sizeOf3 rfl rfl rfl (by first | exact SX.at0 | exact SX.at1 | exact SX.at2 | exact SX.at3 | exact SX.at4 | exact SX.at5 | exact Z.at6 | exact Z.at7 | exact Z.at8 | exact Z.at9 | exact Z.at10 | exact Z.at11 | exact Z.at12) (by first | (simp; done) | (simp; omega)) ?_ | refine Z.ZO.storeR rfl rfl hs Try.sizeOf3 rfl rfl rfl (by first | exact SX.at0 | exact SX.at1 | exact SX.at2 | exact SX.at3 | exact SX.at4 | exact SX.at5 | exact Z.at6 | exact Z.at7 | exact Z.at8 | exact Z.at9 | exact Z.at10 | exact Z.at11 | exact Z.at12) (by first | omega | (simp [ints_length]; done) | (simp [ints_length]; omega)) ?_
    clear hs; intro ws hs
    simp only [Nat.zero_add, Nat.add_zero, Nat.reduceAdd, Int.reduceToNat, Nat.reduceMul, List.set_cons_zero, List.set_cons_succ, List.setIfInBounds_toArray] at hs
    refine Z.lnil ?_
    refine Z.only [] rfl ?_
    -- ret#0
    refine Z.out0n trivial ?_
    refine ⟨_, rfl, .slice (some ⟨g1, 0, none⟩) (bs.length / 8 + 1) cap1, rfl, ?_⟩
    have e1 : (pk (bs ++ [b])).length = bs.length / 8 + 1 := by rw [pk_length]; simp; omega
    have e2 : ((bs ++ [b]).length : Int) = bs.length + 1 := by simp
    simp only [WrL, e1, e2]
    exact hs
end Go.Proofs.Ytogjkgoiofngaaa

/- The bits of a field, one by one; put. -/
namespace Go.Proofs.Ytogjkgoiofngaaa
open Go.RowKit
set_option linter.unusedSimpArgs false
set_option linter.unusedVariables false

theorem prefix_take {α : Type} {l : List α} {j : Nat} {x : α} (h : l[j]? = some x) : (l.take j ++ [x]) <+: l := by
  have hj : j < l.length := (List.getElem?_eq_some_iff.1 h).1
  have hx : l[j] = x := (List.getElem?_eq_some_iff.1 h).2
  rw [← hx, ← List.take_succ_eq_append_getElem hj]
  exact List.take_prefix _ _
theorem take_snoc {α : Type} {l : List α} {j : Nat} {x : α} (h : l[j]? = some x) : l.take j ++ [x] = l.take (j + 1) := by
  have hj : j < l.length := (List.getElem?_eq_some_iff.1 h).1
  have hx : l[j] = x := (List.getElem?_eq_some_iff.1 h).2
  rw [← hx, ← List.take_succ_eq_append_getElem hj]

theorem shr_at (v wd j : Nat) (hj : j < wd) (hw : wd ≤ 64) : (v : Int).fdiv (2 ^ (min ((wd : Int) - 1 - (j : Int)).toNat IntKind.u64.bits)) = ((v / 2 ^ (wd - 1 - j) : Nat) : Int) := by
  have e : min ((wd : Int) - 1 - (j : Int)).toNat IntKind.u64.bits = wd - 1 - j := by
    have : IntKind.u64.bits = 64 := rfl
    omega
  rw [e, Int.fdiv_eq_ediv_of_nonneg _ (Int.le_of_lt (Int.pow_pos (by decide)))]
  push_cast
  rfl
theorem and_one (v i : Nat) (hv : v < 18446744073709551616) : IntKind.u64.wrap ((BitVec.ofInt IntKind.u64.bits ((v / 2 ^ i : Nat) : Int) &&& BitVec.ofInt IntKind.u64.bits 1).toNat : Int) = bi (v.testBit i) := by
  have h1 : v / 2 ^ i < 18446744073709551616 := Nat.lt_of_le_of_lt (Nat.div_le_self _ _) hv
  have e1 : (BitVec.ofInt 64 ((v / 2 ^ i : Nat) : Int)).toNat = v / 2 ^ i := by rw [BitVec.ofInt_natCast, BitVec.toNat_ofNat]; exact Nat.mod_eq_of_lt (by omega)
  have e2 : (BitVec.ofInt 64 (1 : Int)).toNat = 1 := by decide
  have e3 : ((BitVec.ofInt 64 ((v / 2 ^ i : Nat) : Int)) &&& (BitVec.ofInt 64 (1 : Int))).toNat = v / 2 ^ i % 2 := by rw [BitVec.toNat_and, e1, e2, Nat.and_one_is_mod]
  show IntKind.u64.wrap (((BitVec.ofInt 64 ((v / 2 ^ i : Nat) : Int)) &&& (BitVec.ofInt 64 (1 : Int))).toNat : Int) = _
  rw [e3, testBit_bi]
  exact Z.wu64 (by omega)
theorem u8_bi (b : Bool) : IntKind.u8.wrap (bi b) = bi b := by cases b <;> decide
def BitA (b : Bool) (args : Array Value) (Lx : List SX.Ent) : Prop := args = #[.int .u8 (bi b)] ∧ Lx = []

set_option maxRecDepth 100000 in
theorem bits_seq (gv gw Tv Tw : Nat) (v wd : Nat) (hv : v < 18446744073709551616) (hw : wd ≤ 64) :
    SX.SeqC Try.prog 66 #[.pointer (some ⟨gw, 0, none⟩), .pointer (some ⟨gv, 0, none⟩)] BitA [SX.Ent.blk gw Tw #[.int .i64 (wd : Int)], SX.Ent.blk gv Tv #[.int .u64 (v : Int)]] (fun _ _ => True) (fld v wd) := by
  intro l w0 M I Ix W L0 _ hY hI hs
  have hfl := fld_length v wd
  refine Z.enter Try.func66 rfl Try.ntmps66 rfl rfl ?_
  refine Z.scope ?_
  refine Z.seq ?_
  refine Z.label ?_
  refine Z.nthen ?_
  refine Z.seq ?_
  refine Z.region ?_
  refine Z.l rfl rfl (by rfl) (Z.keepS hs) (by first | exact Z.Yd.load rfl Try.isAgg3 (fun _ => Z.cellB (by first | ((repeat (first | exact List.mem_cons_self | refine List.mem_cons_of_mem _ ?_ | refine List.mem_append_right _ ?_)); done) | fail) rfl) | exact Z.Yd.load rfl Try.isAgg3 (fun _ => Z.cellO (by assumption) (by simp) (by assumption)) | fail "load 0.0") ?_
  refine Z.l rfl rfl (by rfl) (Z.keepS hs) (Z.Yd.sub rfl rfl (fun hG => Z.wi64 (by first | omega | (have hG' := Z.gh rfl hG; simp at hG'; omega)))) ?_
  refine Z.lb 1 rfl ?_
  refine Z.lnil ?_
  refine Z.only [0, 2, 4] rfl ?_
  refine Z.nthen ?_
  refine Z.block ?_
  refine Z.loopk (ι := Nat × List SX.Ent) [0, 2] rfl (fun j => [(4, [], .int .i64 ((wd : Int) - 1 - (j.1 : Int)))]) (fun j wr => j.1 ≤ wd ∧ I ((fld v wd).take j.1) j.2 ∧ SX.St w0 M wr (j.2 ++ [SX.Ent.blk gw Tw #[.int .i64 (wd : Int)], SX.Ent.blk gv Tv #[.int .u64 (v : Int)]])) (fun j => wd - j.1) (0, L0) (by refine ⟨?_, trivial⟩ <;> (first | rfl | (refine Z.lookv rfl ?_; simp; done) | (refine Z.lookv rfl ?_; simp; omega))) ⟨by omega, hI, hs⟩ ?_
  clear hs
  rintro ⟨j, L1⟩ w1 ⟨hj, hi, hs⟩
  refine Z.only [0, 2, 4] rfl ?_
  (try dsimp only at hs)
  refine Z.seq ?_
  refine Z.seq ?_
  refine Z.region ?_
  refine Z.lb 2 rfl ?_
  refine Z.lnil ?_
  refine Z.only [0, 2, 4, 8] rfl ?_
  refine Z.nthen ?_
  refine Z.cond rfl (fun hc1 => ?_) (fun hc1 => ?_)
  · first
      | (exfalso; simp at hc1 <;> omega)
      | (
        (try simp at hc1)
        have hlt : j < wd := by omega
        have hg := fld_get v wd j hlt
        refine Z.skip ?_
        refine Z.nthen ?_
        refine Z.seq ?_
        refine Z.block ?_
        refine Z.seq ?_
        refine Z.region ?_
        refine Z.lb 1 rfl ?_
        refine Z.l rfl rfl (by rfl) (Z.keepS hs) (by first | exact Z.Yd.load rfl Try.isAgg68 (fun _ => Z.cellB (by first | ((repeat (first | exact List.mem_cons_self | refine List.mem_cons_of_mem _ ?_ | refine List.mem_append_right _ ?_)); done) | fail) rfl) | exact Z.Yd.load rfl Try.isAgg68 (fun _ => Z.cellO (by assumption) (by simp) (by assumption)) | fail "load 3.1") ?_
        refine Z.lb 1 rfl ?_
        refine Z.l rfl rfl (by rfl) (Z.keepS hs) (Z.Yd.shr rfl rfl (by intro hG; first | decide | omega) (fun _ => shr_at v wd j hlt hw)) ?_
        refine Z.l rfl rfl (by rfl) (Z.keepS hs) (Z.Yd.and rfl rfl (fun _ => and_one v (wd - 1 - j) hv)) ?_
        refine Z.l rfl rfl (by rfl) (Z.keepS hs) (Z.Yd.convI rfl ⟨_, Try.underlying68⟩ Try.underlying5 (fun _ => u8_bi _)) ?_
        refine Z.le rfl trivial ?_
        refine Z.ZO.yield rfl rfl (by rfl) rfl rfl rfl (hY _ ((fld v wd).take j) (v.testBit (wd - 1 - j)) _ _ L1 [] hi (prefix_take hg) ⟨rfl, rfl⟩ hs) ?_
        clear hs
        rintro e wy3_6 (⟨rfl, Ly3_6, hiy3_6, hs⟩ | ⟨rfl, Ly3_6, hiy3_6, hs⟩)
        · refine ⟨_, rfl, ?_⟩
          refine Z.lb 1 rfl ?_
          refine Z.lnil ?_
          refine Z.only [0, 2, 4, 18] rfl ?_
          refine Z.nthen ?_
          refine Z.cond rfl (fun hc3 => ?_) (fun hc3 => ?_)
          · first
              | (exfalso; simp at hc3 <;> omega)
              | (
                (try simp at hc3)
                refine Z.exit ?_
                refine Z.xblockn rfl ?_
                refine Z.xthen ?_
                refine Z.xthen ?_
                refine Z.xblock ?_
                refine Z.nscope ?_
                -- ret#0
                refine Z.out0n trivial ?_
                first
                | exact ⟨⟨_, rfl⟩, Ly3_6, .inr hiy3_6, hs⟩
                | exact ⟨⟨_, rfl⟩, L1, .inl (by rwa [List.take_of_length_le (by omega)] at hi), hs⟩
                )
          · first
              | (exfalso; simp at hc3 <;> omega)
              | (
                (try simp at hc3)
                refine Z.skip ?_
                refine Z.nblock ?_
                refine Z.nthen ?_
                refine Z.region ?_
                refine Z.lb 1 rfl ?_
                refine Z.l rfl rfl (by rfl) (Z.keepS hs) (Z.Yd.sub rfl rfl (fun hG => Z.wi64 (by first | omega | (have hG' := Z.gh rfl hG; simp at hG'; omega)))) ?_
                refine Z.lb 1 rfl ?_
                refine Z.lnil ?_
                refine Z.only [0, 2, 4] rfl ?_
                refine Z.nthen ?_
                exact Z.again (j + 1, Ly3_6) (by refine ⟨?_, ?_, ?_, trivial⟩ <;> (first | rfl | (refine Z.lookv rfl ?_; simp; done) | (refine Z.lookv rfl ?_; simp; omega))) ⟨by omega, by rw [← take_snoc hg]; exact hiy3_6, hs⟩ (by simp only; omega)
                )
        · refine ⟨_, rfl, ?_⟩
          refine Z.lb 1 rfl ?_
          refine Z.lnil ?_
          refine Z.only [0, 2, 4, 18] rfl ?_
          refine Z.nthen ?_
          refine Z.cond rfl (fun hc3 => ?_) (fun hc3 => ?_)
          · first
              | (exfalso; simp at hc3 <;> omega)
              | (
                (try simp at hc3)
                refine Z.exit ?_
                refine Z.xblockn rfl ?_
                refine Z.xthen ?_
                refine Z.xthen ?_
                refine Z.xblock ?_
                refine Z.nscope ?_
                -- ret#1
                refine Z.out0n trivial ?_
                first
                | exact ⟨⟨_, rfl⟩, Ly3_6, .inr hiy3_6, hs⟩
                | exact ⟨⟨_, rfl⟩, L1, .inl (by rwa [List.take_of_length_le (by omega)] at hi), hs⟩
                )
          · first
              | (exfalso; simp at hc3 <;> omega)
              | (
                (try simp at hc3)
                refine Z.skip ?_
                refine Z.nblock ?_
                refine Z.nthen ?_
                refine Z.region ?_
                refine Z.lb 1 rfl ?_
                refine Z.l rfl rfl (by rfl) (Z.keepS hs) (Z.Yd.sub rfl rfl (fun hG => Z.wi64 (by first | omega | (have hG' := Z.gh rfl hG; simp at hG'; omega)))) ?_
                refine Z.lb 1 rfl ?_
                refine Z.lnil ?_
                refine Z.only [0, 2, 4] rfl ?_
                refine Z.nthen ?_
                exact Z.again (j + 1, Ly3_6) (by refine ⟨?_, ?_, ?_, trivial⟩ <;> (first | rfl | (refine Z.lookv rfl ?_; simp; done) | (refine Z.lookv rfl ?_; simp; omega))) ⟨by omega, by rw [← take_snoc hg]; exact hiy3_6, hs⟩ (by simp only; omega)
                )
        )
  · first
      | (exfalso; simp at hc1 <;> omega)
      | (
        (try simp at hc1)
        refine Z.exit ?_
        refine Z.xthen ?_
        refine Z.xthen ?_
        refine Z.xblock ?_
        refine Z.nscope ?_
        -- ret#2
        refine Z.out0n trivial ?_
        first
        | exact ⟨⟨_, rfl⟩, Ly3_6, .inr hiy3_6, hs⟩
        | exact ⟨⟨_, rfl⟩, L1, .inl (by rwa [List.take_of_length_le (by omega)] at hi), hs⟩
        )

theorem bits_any (v wd : Nat) (w : World) :
    Calls Try.prog 60 #[.int .u64 (v : Int), .int .i64 (wd : Int)] w (SX.Ret fun r w' => ∃ gv gw, r = .func (.func 66) #[] #[.pointer (some ⟨gw, 0, none⟩), .pointer (some ⟨gv, 0, none⟩)] ∧
      SX.St w [] w' [SX.Ent.blk gw 3 #[.int .i64 (wd : Int)], SX.Ent.blk gv 68 #[.int .u64 (v : Int)]]) := by
  have hs := SX.St.start w
  refine Z.enter Try.func60 rfl Try.ntmps60 rfl rfl ?_
  refine Z.seq ?_
  refine Z.region ?_
  refine Z.le rfl trivial ?_
  refine Z.ZO.box rfl rfl (by rfl) rfl rfl hs ?_
  clear hs; intro g2 w2 hs
  refine Z.le rfl trivial ?_
  refine Z.ZO.box rfl rfl (by rfl) rfl rfl hs ?_
  clear hs; intro g3 w3 hs
  refine Z.lb 1 rfl ?_
  refine Z.lnil ?_
  refine Z.only [2, 3] rfl ?_
  refine Z.nthen ?_
  refine Z.seq ?_
  refine Z.region ?_
  refine Z.lb 2 rfl ?_
  refine Z.lnil ?_
  refine Z.only [4] rfl ?_
  refine Z.nthen ?_
  refine Z.ret ?_
  -- ret#0
  refine Z.out1 (by exact ⟨rfl, trivial⟩) ?_
  exact ⟨_, rfl, _, _, rfl, hs⟩

set_option maxRecDepth 100000 in
theorem put_any (g T : Nat) (sv : Value) (bs : List Bool) (v wd : Nat) (w : World) (hs : SX.St w (SX.idsOf (WrL g T sv bs)) w (WrL g T sv bs)) (hb : bs.length ≤ 9000000) (hv : v < 18446744073709551616) (hw : wd ≤ 64) :
    Calls Try.prog 52 #[.pointer (some ⟨g, 0, none⟩), .int .u64 (v : Int), .int .i64 (wd : Int)] w (SX.Ret fun r w' => ∃ sv', r = .tuple #[] ∧ SX.St w (SX.idsOf (WrL g T sv bs)) w' (WrL g T sv' (bs ++ fld v wd))) := by
  generalize hM : SX.idsOf (WrL g T sv bs) = M at *
  refine Z.enterM Try.func52 rfl Try.ntmps52 rfl rfl ?_
  refine Z.seq ?_
  refine Z.region ?_
  refine Z.le rfl trivial ?_
  refine Z.ZO.box rfl rfl (by rfl) rfl rfl hs ?_
  clear hs; intro g3 w3 hs
  refine Z.lnil ?_
  refine Z.only [1, 2, 3] rfl ?_
  refine Z.nthen ?_
  refine Z.seq ?_
  refine Z.region ?_
  refine Z.lb 2 rfl ?_
  refine Z.le rfl trivial ?_
  refine Z.ZO.call rfl rfl (by rfl) rfl rfl Try.call60 rfl (bits_any v wd _) ?_
  rintro v1_2 w1_2 ⟨gv, gw, rfl, hy⟩
  replace hs := hs.call hy
  clear hy
  try simp only [List.cons_append, List.nil_append, List.append_nil] at hs
  refine Z.lnil ?_
  refine Z.only [3, 9] rfl ?_
  refine Z.nthen ?_
  refine Z.block ?_
  refine Z.rangeFunc (ps := [10]) (L0 := SX.Ent.blk g3 100 #[.pointer (some ⟨g, 0, none⟩)] :: WrL g T sv bs) (bits_seq gv gw _ _ v wd hv hw) rfl Try.call66 (hs.rot (L1 := [_, _])) trivial (by rintro x args Lx ⟨rfl, rfl⟩; rfl) rfl (fun pre L => ∃ sv', L = SX.Ent.blk g3 100 #[.pointer (some ⟨g, 0, none⟩)] :: WrL g T sv' (bs ++ pre)) (fun _ _ => False) ⟨sv, by simp⟩ ?_ ?_ ?_
  · clear hs
    rintro l0 Z0 pre x args W0 L0 Lx ⟨sv', rfl⟩ hpre ⟨rfl, rfl⟩ hs
    refine ⟨_, rfl, ?_⟩
    refine Z.region ?_
    refine Z.lb 1 rfl ?_
    refine Z.lnil ?_
    refine Z.only [3, 6] rfl ?_
    refine Z.nthen ?_
    refine Z.assigned (SX.Ent.blk g3 100 #[.pointer (some ⟨g, 0, none⟩)] :: WrL g T sv' (bs ++ pre)) hs ?_
    clear hs
    intro Wb0 Zb0 hs
    refine Z.block ?_
    refine Z.region ?_
    refine Z.l rfl rfl (by rfl) (Z.keepS hs) (by first | exact Z.Yd.load rfl Try.isAgg100 (fun _ => Z.cellB (by first | ((repeat (first | exact List.mem_cons_self | refine List.mem_cons_of_mem _ ?_ | refine List.mem_append_right _ ?_)); done) | fail) rfl) | exact Z.Yd.load rfl Try.isAgg100 (fun _ => Z.cellO (by assumption) (by simp) (by assumption)) | fail "load 3.0") ?_
    refine Z.l rfl rfl (by rfl) (Z.keepS hs) (Z.Yd.nilc rfl rfl) ?_
    refine Z.l rfl rfl (by rfl) (Z.keepS hs) (Z.Yd.fieldA (m := 0) rfl (by kernel_rfl)) ?_
    refine Z.lb 1 rfl ?_
    have hpl := hpre.length_le
    have hfl := fld_length v wd
    simp only [List.length_append, List.length_cons, List.length_nil] at hpl
    replace hs := SX.St.unmid (L1 := WrL g T sv' (bs ++ pre)) hs
    refine Z.le rfl trivial ?_
    refine Z.ZO.call rfl rfl (by rfl) rfl rfl Try.call61 rfl (add_any g T sv' (bs ++ pre) x _ hs.lend (by simp; omega)) ?_
    rintro v3_4 w3_4 ⟨sv2, rfl, hz⟩
    replace hs := (hs.regain hz).mid
    refine Z.lnil ?_
    refine Z.only [] rfl ?_
    refine Z.nblock ?_
    exact Z.rnorm _ ⟨sv2, by rw [← List.append_assoc]⟩ hs
  · clear hs
    rintro Dd W0 L0 hi hs
    obtain ⟨sv', rfl⟩ := hi
    refine Z.nblock ?_
    -- ret#0
    refine Z.outM1n (vs := []) hs (fun wr hs => trivial) trivial ?_
    clear hs
    intro wr hs
    exact ⟨_, rfl, sv', rfl, hs.tl.sub (List.sublist_append_left _ _)⟩
  · clear hs
    rintro Dd c W0 L0 hi hs
    exact hi.elim
end Go.Proofs.Ytogjkgoiofngaaa

/- Copies of bytes; comparisons; the document's bits. -/
namespace Go.Proofs.Ytogjkgoiofngaaa
open Go.RowKit
set_option linter.unusedSimpArgs false
set_option linter.unusedVariables false

theorem clone8 (M : List Nat) (A : Option Addr) (n c : Nat) (l : List Int) (w : World) (hx : Sx w M A (ints .u8 l)) (hl : l.length = n) (hn : n ≤ 100000000) (hz : A = none → n = 0) :
    Calls Try.prog 50 #[.slice A n c] w (SX.Ret fun v w' => SX.St w [] w' [SX.Ent.row v 5 1 n (ints .u8 l)]) := by
  have hs := SX.St.start w
  cases A with
  | none =>
    obtain rfl := hz rfl
    have hl0 : l = [] := List.eq_nil_of_length_eq_zero hl
    subst hl0
    refine Z.enter Try.func50 rfl Try.ntmps50 rfl rfl ?_
    refine Z.seq ?_
    refine Z.region ?_
    refine Z.lb 1 rfl ?_
    refine Z.lnil ?_
    refine Z.only [0] rfl ?_
    refine Z.nthen ?_
    refine Z.seq ?_
    refine Z.seq ?_
    refine Z.region ?_
    refine Z.lb 1 rfl ?_
    refine Z.l rfl rfl (by rfl) (Z.keepS hs) (Z.Yd.sliceNil rfl rfl Try.underlying26) ?_
    refine Z.lnil ?_
    refine Z.only [0, 4] rfl ?_
    refine Z.nthen ?_
    refine Z.cond rfl (fun hc1 => ?_) (fun h => absurd h (by simp))
    refine Z.seq ?_
    refine Z.region ?_
    refine Z.lb 1 rfl ?_
    refine Z.lnil ?_
    refine Z.only [2] rfl ?_
    refine Z.nthen ?_
    refine Z.ret ?_
    repeat (first | refine Z.rthen ?_ | refine Z.rblock ?_ | refine Z.rscope ?_)
    -- ret#0
    refine Z.out1 (by exact ⟨rfl, trivial⟩) ?_
    exact ⟨_, rfl, hs.nil _ _⟩
  | some ad =>
    refine Z.enter Try.func50 rfl Try.ntmps50 rfl rfl ?_
    refine Z.seq ?_
    refine Z.region ?_
    refine Z.lb 1 rfl ?_
    refine Z.lnil ?_
    refine Z.only [0] rfl ?_
    refine Z.nthen ?_
    refine Z.seq ?_
    refine Z.seq ?_
    refine Z.region ?_
    refine Z.lb 1 rfl ?_
    refine Z.l rfl rfl (by rfl) (Z.keepS hs) (Z.Yd.sliceNil rfl rfl Try.underlying26) ?_
    refine Z.lnil ?_
    refine Z.only [0, 4] rfl ?_
    refine Z.nthen ?_
    refine Z.cond rfl (fun h => absurd h (by simp)) (fun hc1 => ?_)
    refine Z.skip ?_
    refine Z.nthen ?_
    refine Z.seq ?_
    refine Z.region ?_
    refine Z.le rfl trivial ?_
    refine Z.ZO.empty rfl rfl (by rfl) Try.underlying26 Try.sizeOf5 hs ?_
    clear hs; intro g5 w5 hs
    refine Z.lb 1 rfl ?_
    refine Z.le rfl trivial ?_
    refine Z.ZO.appendG (i0 := Try.t5) (size := 1) (bytes := 1) rfl rfl (by rfl) hs Try.underlying26 (by kernel_rfl) rfl rfl rfl rfl (by decide) rfl rfl (by first | exact SX.at0 | exact SX.at1 | exact SX.at2 | exact SX.at3 | exact SX.at4 | exact SX.at5 | exact Z.at6 | exact Z.at7 | exact Z.at8 | exact Z.at9 | exact Z.at10 | exact Z.at11 | exact Z.at12) (hx.sl.st hs) (by first | rfl | assumption | (simp [ints_length]; done) | (simp [ints_length]; omega)) (by first | exact Z.ints_one | assumption | simp [Value.oneCell']) (by unfold maxLen; omega) (by omega) ?_
    clear hs; intro v7 w7 hs
    simp only [List.set_cons_zero, List.set_cons_succ] at hs
    refine Z.lb 1 rfl ?_
    refine Z.lnil ?_
    refine Z.only [2] rfl ?_
    refine Z.nthen ?_
    refine Z.ret ?_
    -- ret#0
    refine Z.out1 (by exact ⟨rfl, trivial⟩) ?_
    exact ⟨_, rfl, by simpa using hs⟩

end Go.Proofs.Ytogjkgoiofngaaa

/- The document's FromUint, Pack, Unpack. -/
namespace Go.Proofs.Ytogjkgoiofngaaa
open Go.RowKit
set_option linter.unusedSimpArgs false
set_option linter.unusedVariables false

def outj (v n j : Nat) : List Int := (List.range n).map fun i => if n - j ≤ i then bi (v.testBit (n - 1 - i)) else 0
@[simp] theorem outj_length (v n j : Nat) : (outj v n j).length = n := by simp [outj]
end Go.Proofs.Ytogjkgoiofngaaa

/- The document's Unpack, Put, PutBytes, PutAll, Align, Bytes. -/
namespace Go.Proofs.Ytogjkgoiofngaaa
open Go.RowKit
set_option linter.unusedSimpArgs false
set_option linter.unusedVariables false

/-- the bits of bytes -/
def unb (l : List Int) : List Bool := l.flatMap fun x => fld x.toNat 8
theorem unb_length (l : List Int) : (unb l).length = l.length * 8 := Z.flat_length (fun x => fld_length _ 8)
theorem unb_get {l : List Int} {k : Nat} (hk : k < l.length * 8) : (unb l)[k]? = some ((elt l ((k : Int) / 8)).toNat.testBit (7 - k % 8)) := by
  have h1 : k / 8 < l.length := by omega
  have hx : l[k / 8]? = some (l[k / 8]) := List.getElem?_eq_getElem h1
  have := Z.flat_get (enc := fun x : Int => fld x.toNat 8) (s := 8) (fun x => fld_length _ 8) hx (j := k % 8) (by omega)
  rw [show k / 8 * 8 + k % 8 = k from by omega, fld_get _ 8 _ (by omega)] at this
  unfold unb
  rw [this]
  have e : elt l ((k : Int) / 8) = l[k / 8] := by
    have e1 : ((k : Int) / 8).toNat = k / 8 := by omega
    simp [elt, e1, h1]
  rw [e]
end Go.Proofs.Ytogjkgoiofngaaa

/- The writer's calls and the document's PutAll. -/
namespace Go.Proofs.Ytogjkgoiofngaaa
open Go.RowKit
set_option linter.unusedSimpArgs false
set_option linter.unusedVariables false

def quoF (f : Int × Int) : Nat := f.1.toNat / 2 ^ f.2.toNat
/-- the error of a field -/
def chkF (f : Int × Int) : Int := if f.2 < 0 ∨ 64 < f.2 then 2 else if quoF f = 0 then 0 else 4
def encF (f : Int × Int) : List Value := [.int .u64 f.1, .int .i64 f.2]
def fldF (f : Int × Int) : List Bool := fld f.1.toNat f.2.toNat
def GoodF (f : Int × Int) : Prop := 0 ≤ f.1 ∧ f.1 < 18446744073709551616 ∧ -9223372036854775808 ≤ f.2 ∧ f.2 ≤ 9223372036854775807
def chkA : List (Int × Int) → Int
  | [] => 0
  | f :: fs => if chkF f = 0 then chkA fs else chkF f
def resA (bs : List Bool) (fs : List (Int × Int)) : List Bool := if chkA fs = 0 then bs ++ fs.flatMap fldF else bs
theorem encF_length (f : Int × Int) : (encF f).length = 2 := rfl
theorem chkA_app : ∀ a b : List (Int × Int), chkA a = 0 → chkA (a ++ b) = chkA b
  | [], b, _ => rfl
  | f :: a, b, h => by
    by_cases hf : chkF f = 0
    · simp only [chkA, if_pos hf, List.cons_append] at h ⊢
      exact chkA_app a b h
    · simp only [chkA, if_neg hf] at h
      exact absurd h hf
theorem chkA_at {fs : List (Int × Int)} {k : Nat} {f : Int × Int} (h : fs[k]? = some f) (h0 : chkA (fs.take k) = 0) (hf : chkF f ≠ 0) : chkA fs = chkF f := by
  have e : fs = fs.take (k + 1) ++ fs.drop (k + 1) := (List.take_append_drop _ _).symm
  rw [← take_snoc h] at e
  rw [e, List.append_assoc, chkA_app _ _ h0]
  simp [chkA, hf]
theorem chkA_snoc {fs : List (Int × Int)} {k : Nat} {f : Int × Int} (h : fs[k]? = some f) (h0 : chkA (fs.take k) = 0) (hf : chkF f = 0) : chkA (fs.take (k + 1)) = 0 := by
  rw [← take_snoc h, chkA_app _ _ h0]
  simp [chkA, hf]
theorem chkA_mem : ∀ {fs : List (Int × Int)}, chkA fs = 0 → ∀ f ∈ fs, chkF f = 0
  | [], _, f, h => by simp at h
  | g :: fs, h0, f, h => by
    by_cases hg : chkF g = 0
    · simp only [chkA, if_pos hg] at h0
      rcases List.mem_cons.1 h with rfl | h
      · exact hg
      · exact chkA_mem h0 f h
    · simp only [chkA, if_neg hg] at h0
      exact absurd h0 hg
theorem chkF_bd {f : Int × Int} (h : chkF f = 0) : 0 ≤ f.2 ∧ f.2 ≤ 64 ∧ quoF f = 0 := by
  unfold chkF at h
  split at h
  · simp at h
  · split at h
    · rename_i h1 h2
      exact ⟨by omega, by omega, h2⟩
    · simp at h
theorem flatF_length {fs : List (Int × Int)} (h : chkA fs = 0) : (fs.flatMap fldF).length ≤ fs.length * 64 := by
  induction fs with
  | nil => simp
  | cons f fs ih =>
    have h1 := chkF_bd (chkA_mem h f (by simp))
    have h2 : chkA fs = 0 := by
      by_cases hf : chkF f = 0
      · simpa only [chkA, if_pos hf] using h
      · simp only [chkA, if_neg hf] at h; exact absurd h hf
    have := ih h2
    simp only [List.flatMap_cons, List.length_append, List.length_cons, fldF, fld_length]
    omega
theorem take_zero {fs : List (Int × Int)} {k : Nat} (h : chkA fs = 0) : chkA (fs.take k) = 0 := by
  induction fs generalizing k with
  | nil => simp [chkA]
  | cons f fs ih =>
    cases k with
    | zero => rfl
    | succ k =>
      by_cases hf : chkF f = 0
      · simp only [chkA, if_pos hf, List.take_succ_cons] at h ⊢
        exact ih h
      · simp only [chkA, if_neg hf] at h; exact absurd h hf
theorem shr_chk (v wd : Int) (h0 : 0 ≤ v) (hw : 0 ≤ wd) (h64 : wd < 64) : v.fdiv (2 ^ (min wd.toNat IntKind.u64.bits)) = (quoF (v, wd) : Int) := by
  obtain ⟨n, rfl⟩ := Int.eq_ofNat_of_zero_le h0
  have e : min wd.toNat IntKind.u64.bits = wd.toNat := by
    have : IntKind.u64.bits = 64 := rfl
    omega
  rw [e, Int.fdiv_eq_ediv_of_nonneg _ (Int.le_of_lt (Int.pow_pos (by decide)))]
  simp [quoF]

theorem quo64 {v wd : Int} (h : wd = 64) (h1 : v < 18446744073709551616) : quoF (v, wd) = 0 := by
  subst h
  exact Nat.div_eq_of_lt (by simp only; have : (2 : Nat) ^ (64 : Int).toNat = 18446744073709551616 := by decide
                             omega)

theorem check_any (v wd : Int) (w : World) (hg : GoodF (v, wd)) :
    Calls Try.prog 51 #[.agg #[.int .u64 v, .int .i64 wd]] w (SX.Ret fun r w' => r = .int .i64 (chkF (v, wd)) ∧ SX.St w [] w' []) := by
  have hs := SX.St.start w
  obtain ⟨h0, h1, h2, h3⟩ := hg
  simp only at h0 h1 h2 h3
  refine Z.enter Try.func51 rfl Try.ntmps51 rfl rfl ?_
  refine Z.seq ?_
  refine Z.region ?_
  refine Z.le rfl trivial ?_
  refine Z.ZO.box rfl rfl (by rfl) rfl rfl hs ?_
  clear hs; intro g1 w1 hs
  refine Z.lb 1 rfl ?_
  refine Z.lnil ?_
  refine Z.only [1] rfl ?_
  refine Z.nthen ?_
  refine Z.seq ?_
  refine Z.block ?_
  refine Z.seq ?_
  refine Z.region ?_
  refine Z.l rfl rfl (by rfl) (Z.keepS hs) (Z.Yd.fieldA (m := 1) rfl (by kernel_rfl)) ?_
  refine Z.l rfl rfl (by rfl) (Z.keepS hs) (by first | exact Z.Yd.load rfl Try.isAgg3 (fun _ => Z.cellB (by first | ((repeat (first | exact List.mem_cons_self | refine List.mem_cons_of_mem _ ?_ | refine List.mem_append_right _ ?_)); done) | fail) rfl) | exact Z.Yd.load rfl Try.isAgg3 (fun _ => Z.cellO (by assumption) (by simp) (by assumption)) | fail "load 1.1") ?_
  refine Z.lb 2 rfl ?_
  refine Z.l rfl rfl (by rfl) (Z.keepS hs) (Z.Yd.fieldA (m := 1) rfl (by kernel_rfl)) ?_
  refine Z.l rfl rfl (by rfl) (Z.keepS hs) (by first | exact Z.Yd.load rfl Try.isAgg3 (fun _ => Z.cellB (by first | ((repeat (first | exact List.mem_cons_self | refine List.mem_cons_of_mem _ ?_ | refine List.mem_append_right _ ?_)); done) | fail) rfl) | exact Z.Yd.load rfl Try.isAgg3 (fun _ => Z.cellO (by assumption) (by simp) (by assumption)) | fail "load 1.5") ?_
  refine Z.lb 3 rfl ?_
  refine Z.lnil ?_
  refine Z.only [1, 3] rfl ?_
  refine Z.nthen ?_
  refine Z.cond rfl (fun hc1 => ?_) (fun hc1 => ?_)
  · first
      | (exfalso; simp at hc1 <;> omega)
      | (
        (try simp at hc1)
        refine Z.seq ?_
        refine Z.region ?_
        refine Z.lb 1 rfl ?_
        refine Z.lnil ?_
        refine Z.only [2] rfl ?_
        refine Z.nthen ?_
        refine Z.ret ?_
        repeat (first | refine Z.rthen ?_ | refine Z.rblock ?_ | refine Z.rscope ?_)
        -- ret#0
        refine Z.out1 (by exact ⟨rfl, trivial⟩) ?_
        exact ⟨_, rfl, by unfold chkF; rw [if_pos (by simp only; omega)], hs.sub (List.nil_sublist _)⟩
        )
  · first
      | (exfalso; simp at hc1 <;> omega)
      | (
        (try simp at hc1)
        refine Z.seq ?_
        refine Z.region ?_
        refine Z.l rfl rfl (by rfl) (Z.keepS hs) (Z.Yd.fieldA (m := 1) rfl (by kernel_rfl)) ?_
        refine Z.l rfl rfl (by rfl) (Z.keepS hs) (by first | exact Z.Yd.load rfl Try.isAgg3 (fun _ => Z.cellB (by first | ((repeat (first | exact List.mem_cons_self | refine List.mem_cons_of_mem _ ?_ | refine List.mem_append_right _ ?_)); done) | fail) rfl) | exact Z.Yd.load rfl Try.isAgg3 (fun _ => Z.cellO (by assumption) (by simp) (by assumption)) | fail "load 3.1") ?_
        refine Z.lb 2 rfl ?_
        refine Z.l rfl rfl (by rfl) (Z.keepS hs) (Z.Yd.fieldA (m := 0) rfl (by kernel_rfl)) ?_
        refine Z.l rfl rfl (by rfl) (Z.keepS hs) (by first | exact Z.Yd.load rfl Try.isAgg68 (fun _ => Z.cellB (by first | ((repeat (first | exact List.mem_cons_self | refine List.mem_cons_of_mem _ ?_ | refine List.mem_append_right _ ?_)); done) | fail) rfl) | exact Z.Yd.load rfl Try.isAgg68 (fun _ => Z.cellO (by assumption) (by simp) (by assumption)) | fail "load 3.5") ?_
        refine Z.l rfl rfl (by rfl) (Z.keepS hs) (Z.Yd.fieldA (m := 1) rfl (by kernel_rfl)) ?_
        refine Z.l rfl rfl (by rfl) (Z.keepS hs) (by first | exact Z.Yd.load rfl Try.isAgg3 (fun _ => Z.cellB (by first | ((repeat (first | exact List.mem_cons_self | refine List.mem_cons_of_mem _ ?_ | refine List.mem_append_right _ ?_)); done) | fail) rfl) | exact Z.Yd.load rfl Try.isAgg3 (fun _ => Z.cellO (by assumption) (by simp) (by assumption)) | fail "load 3.7") ?_
        refine Z.l rfl rfl (by rfl) (Z.keepS hs) (Z.Yd.shr rfl rfl (by intro hG; first | decide | omega) (by intro hG; have hG' := Z.gh rfl hG; simp at hG'; exact shr_chk v wd h0 (by omega) (by omega))) ?_
        refine Z.lb 3 rfl ?_
        refine Z.lnil ?_
        refine Z.only [12] rfl ?_
        refine Z.nthen ?_
        refine Z.cond rfl (fun hc3 => ?_) (fun hc3 => ?_)
        · first
            | (exfalso; simp at hc3 <;> omega)
            | (
              (try simp at hc3)
              refine Z.seq ?_
              refine Z.region ?_
              refine Z.lb 1 rfl ?_
              refine Z.lnil ?_
              refine Z.only [2] rfl ?_
              refine Z.nthen ?_
              refine Z.ret ?_
              repeat (first | refine Z.rthen ?_ | refine Z.rblock ?_ | refine Z.rscope ?_)
              -- ret#1
              refine Z.out1 (by exact ⟨rfl, trivial⟩) ?_
              exact ⟨_, rfl, by unfold chkF; rw [if_neg (by simp only; omega), if_neg (by omega)], hs.sub (List.nil_sublist _)⟩
              )
        · first
            | (exfalso; simp at hc3 <;> omega)
            | (
              (try simp at hc3)
              refine Z.skip ?_
              refine Z.nblock ?_
              refine Z.nthen ?_
              refine Z.seq ?_
              refine Z.region ?_
              refine Z.lb 1 rfl ?_
              refine Z.lnil ?_
              refine Z.only [2] rfl ?_
              refine Z.nthen ?_
              refine Z.ret ?_
              -- ret#2
              refine Z.out1 (by exact ⟨rfl, trivial⟩) ?_
              exact ⟨_, rfl, by unfold chkF; rw [if_neg (by simp only; omega), if_pos (by by_cases h : wd < 64; exact (by have := hc3 h; omega); exact quo64 (by omega) h1)], hs.sub (List.nil_sublist _)⟩
              )
        )
set_option maxRecDepth 100000 in
theorem putAll_any (g T : Nat) (sv : Value) (bs : List Bool) (A : Option Addr) (n c : Nat) (fs : List (Int × Int)) (w : World) (hs : SX.St w (SX.idsOf (WrL g T sv bs)) w (WrL g T sv bs))
    (hx : Sx w (SX.idsOf (WrL g T sv bs)) A (fs.flatMap encF)) (hl : fs.length = n) (hn : n ≤ 1000) (hb : bs.length ≤ 1000000) (hg : ∀ f ∈ fs, GoodF f) :
    Calls Try.prog 34 #[.pointer (some ⟨g, 0, none⟩), .slice A n c] w (SX.Ret fun r w' => ∃ sv', r = .int .i64 (chkA fs) ∧ SX.St w (SX.idsOf (WrL g T sv bs)) w' (WrL g T sv' (resA bs fs))) := by
  generalize hM : SX.idsOf (WrL g T sv bs) = M at *
  have hfl : (fs.flatMap encF).length = n * 2 := by rw [Z.flat_length (s := 2) encF_length, hl]
  refine Z.enter Try.func34 rfl Try.ntmps34 rfl rfl ?_
  refine Z.seq ?_
  refine Z.region ?_
  refine Z.lb 1 rfl ?_
  refine Z.lnil ?_
  refine Z.only [0, 1] rfl ?_
  refine Z.nthen ?_
  refine Z.seq ?_
  refine Z.seq ?_
  refine Z.region ?_
  refine Z.lb 1 rfl ?_
  refine Z.l rfl rfl (by rfl) (Z.keepS hs) (Z.Yd.ptrNil rfl rfl Try.underlying100) ?_
  refine Z.lnil ?_
  refine Z.only [0, 1, 11] rfl ?_
  refine Z.nthen ?_
  refine Z.cond rfl (fun h => absurd h (by simp)) (fun hc1 => ?_)
  refine Z.skip ?_
  refine Z.nthen ?_
  refine Z.seq ?_
  refine Z.seq ?_
  refine Z.region ?_
  refine Z.lb 1 rfl ?_
  refine Z.l rfl rfl (by rfl) (Z.keepS hs) (Z.Yd.lenS rfl Try.underlying101) ?_
  refine Z.lb 1 rfl ?_
  refine Z.lnil ?_
  refine Z.only [0, 1, 12, 13, 14] rfl ?_
  refine Z.nthen ?_
  refine Z.block ?_
  refine Z.loopk (ι := Nat) [0, 1, 12, 13] rfl (fun k => [(14, [], .int .i64 (k : Int))]) (fun k wr => k ≤ n ∧ chkA (fs.take k) = 0 ∧ SX.St w M wr (WrL g T sv bs)) (fun k => n - k) 0 (by refine ⟨?_, trivial⟩ <;> (first | rfl | (refine Z.lookv rfl ?_; simp; done) | (refine Z.lookv rfl ?_; simp; omega))) ⟨by omega, rfl, hs⟩ ?_
  clear hs
  rintro k w1 ⟨hkn, hz, hs⟩
  refine Z.only [0, 1, 12, 13, 14] rfl ?_
  refine Z.seq ?_
  refine Z.region ?_
  refine Z.lb 1 rfl ?_
  refine Z.lnil ?_
  refine Z.only [0, 1, 12, 13, 14, 15] rfl ?_
  refine Z.nthen ?_
  refine Z.seq ?_
  refine Z.cond rfl (fun hc4 => ?_) (fun hc4 => ?_)
  · first
      | (exfalso; simp at hc4 <;> omega)
      | (
        (try simp at hc4)
        obtain ⟨b, off, rfl, hx⟩ := hx.some (by omega)
        obtain ⟨⟨v, wd⟩, hf⟩ : ∃ f, fs[k]? = some f := ⟨_, List.getElem?_eq_getElem (by omega)⟩
        have hgf := hg _ (List.mem_of_getElem? hf)
        refine Z.skip ?_
        refine Z.nthen ?_
        refine Z.seq ?_
        refine Z.block ?_
        refine Z.seq ?_
        refine Z.region ?_
        refine Z.l rfl rfl (by rfl) (Z.keepS hs) (Z.Yd.elem rfl rfl Try.underlying101 Try.sizeOf71 (fun hG => ⟨(by first | omega | (have hG' := Z.gh rfl hG; simp at hG'; omega)), (by first | omega | (have hG' := Z.gh rfl hG; simp at hG'; omega))⟩)) ?_
        refine Z.l rfl rfl (by rfl) (Z.keepS hs) (Z.Yd.loadA _ rfl Try.isAgg71 (fun _ => Z.cellsX [.int .u64 v, .int .i64 wd] hx encF_length hf rfl) (by exact Try.sizeOf71)) ?_
        refine Z.le rfl trivial ?_
        refine Z.ZO.alloc rfl rfl (by rfl) Try.zeroValue71 rfl hs ?_
        clear hs; intro g6 w6 hs
        refine Z.le rfl trivial ?_
        refine Z.ZO.storeA rfl rfl hs rfl rfl (by kernel_rfl) (by first | (simp [Value.oneCell']; done) | (refine Z.all_one ?_; assumption)) (by first | exact SX.at0 | exact SX.at1 | exact SX.at2 | exact SX.at3 | exact SX.at4 | exact SX.at5 | exact Z.at6 | exact Z.at7 | exact Z.at8 | exact Z.at9 | exact Z.at10 | exact Z.at11 | exact Z.at12) (by rfl) ?_
        clear hs; intro ws hs
        simp only [Nat.zero_add, Nat.add_zero, Nat.reduceAdd, Int.reduceToNat, Nat.reduceMul, List.set_cons_zero, List.set_cons_succ, List.setIfInBounds_toArray] at hs
        refine Z.lnil ?_
        refine Z.only [0, 1, 6, 12, 13, 14] rfl ?_
        refine Z.nthen ?_
        refine Z.seq ?_
        refine Z.region ?_
        refine Z.l rfl rfl (by rfl) (Z.keepS hs) (by first | exact Z.Yd.loadA _ rfl Try.isAgg71 (fun _ => Z.cellsB (by first | ((repeat (first | exact List.mem_cons_self | refine List.mem_cons_of_mem _ ?_ | refine List.mem_append_right _ ?_)); done) | fail)) (by exact Try.sizeOf71) | fail "load 6.0") ?_
        refine Z.le rfl trivial ?_
        refine Z.ZO.call rfl rfl (by rfl) rfl rfl Try.call51 rfl (check_any v wd _ hgf) ?_
        rintro v6_1 w6_1 ⟨rfl, hy⟩
        replace hs := hs.call hy
        clear hy
        try simp only [List.cons_append, List.nil_append, List.append_nil] at hs
        refine Z.lb 1 rfl ?_
        refine Z.lnil ?_
        refine Z.only [0, 1, 7, 12, 13, 14] rfl ?_
        refine Z.nthen ?_
        refine Z.seq ?_
        refine Z.region ?_
        refine Z.lb 2 rfl ?_
        refine Z.lnil ?_
        refine Z.only [0, 1, 7, 12, 13, 14, 21] rfl ?_
        refine Z.nthen ?_
        refine Z.cond rfl (fun hc7 => ?_) (fun hc7 => ?_)
        · first
            | (exfalso; simp at hc7 <;> omega)
            | (
              (try simp at hc7)
              refine Z.seq ?_
              refine Z.region ?_
              refine Z.lb 2 rfl ?_
              refine Z.lnil ?_
              refine Z.only [4] rfl ?_
              refine Z.nthen ?_
              refine Z.ret ?_
              repeat (first | refine Z.rthen ?_ | refine Z.rblock ?_ | refine Z.rscope ?_)
              -- ret#0
              refine Z.out1 (by exact ⟨rfl, trivial⟩) ?_
              exact ⟨_, rfl, sv, by rw [chkA_at hf hz hc7], by unfold resA; rw [if_neg (by rw [chkA_at hf hz hc7]; exact hc7)]; exact hs.tl⟩
              )
        · first
            | (exfalso; simp at hc7 <;> omega)
            | (
              (try simp at hc7)
              refine Z.skip ?_
              refine Z.nblock ?_
              refine Z.nthen ?_
              refine Z.region ?_
              refine Z.l rfl rfl (by rfl) (Z.keepS hs) (Z.Yd.add rfl rfl (fun hG => Z.wi64 (by first | omega | (have hG' := Z.gh rfl hG; simp at hG'; omega)))) ?_
              refine Z.lb 1 rfl ?_
              refine Z.lnil ?_
              refine Z.only [0, 1, 12, 13, 14] rfl ?_
              refine Z.nthen ?_
              exact Z.again (k + 1) (by refine ⟨?_, ?_, ?_, ?_, ?_, trivial⟩ <;> (first | rfl | (refine Z.lookv rfl ?_; simp; done) | (refine Z.lookv rfl ?_; simp; omega))) ⟨by omega, chkA_snoc hf hz hc7, hs.tl⟩ (by omega)
              )
        )
  · first
      | (exfalso; simp at hc4 <;> omega)
      | (
        (try simp at hc4)
        refine Z.exit ?_
        refine Z.xthen ?_
        refine Z.xthen ?_
        refine Z.xblock ?_
        refine Z.nthen ?_
        refine Z.seq ?_
        refine Z.seq ?_
        refine Z.region ?_
        have hz0 : chkA fs = 0 := by rw [List.take_of_length_le (by omega)] at hz; exact hz
        refine Z.l rfl rfl (by rfl) (Z.keepS hs) (Z.Yd.pure rfl) ?_
        refine Z.l rfl rfl (by rfl) (Z.keepS hs) (Z.Yd.lenS rfl Try.underlying101) ?_
        refine Z.lb 1 rfl ?_
        refine Z.lnil ?_
        refine Z.only [0, 24, 25, 26] rfl ?_
        refine Z.nthen ?_
        refine Z.block ?_
        refine Z.loopk (ι := Nat × Value) [0, 24, 25] rfl (fun k => [(26, [], .int .i64 (k.1 : Int))]) (fun k wr => k.1 ≤ n ∧ SX.St w M wr (WrL g T k.2 (bs ++ (fs.take k.1).flatMap fldF))) (fun k => n - k.1) (0, sv) (by refine ⟨?_, trivial⟩ <;> (first | rfl | (refine Z.lookv rfl ?_; simp; done) | (refine Z.lookv rfl ?_; simp; omega))) ⟨by omega, by simpa using hs⟩ ?_
        clear hs
        rintro ⟨j, sv1⟩ w2 ⟨hjn, hs⟩
        refine Z.only [0, 24, 25, 26] rfl ?_
        (try dsimp only at hs)
        refine Z.seq ?_
        refine Z.region ?_
        refine Z.lb 1 rfl ?_
        refine Z.lnil ?_
        refine Z.only [0, 24, 25, 26, 27] rfl ?_
        refine Z.nthen ?_
        refine Z.seq ?_
        refine Z.cond rfl (fun hc11 => ?_) (fun hc11 => ?_)
        · first
            | (exfalso; simp at hc11 <;> omega)
            | (
              (try simp at hc11)
              obtain ⟨b, off, rfl, hx⟩ := hx.some (by omega)
              obtain ⟨⟨v, wd⟩, hf⟩ : ∃ f, fs[j]? = some f := ⟨_, List.getElem?_eq_getElem (by omega)⟩
              have hgf := hg _ (List.mem_of_getElem? hf)
              obtain ⟨hw0, hw1, hw2⟩ := chkF_bd (chkA_mem hz0 _ (List.mem_of_getElem? hf))
              obtain ⟨hv0, hv1, -, -⟩ := hgf
              simp only at hw0 hw1 hv0 hv1
              obtain ⟨v, rfl⟩ := Int.eq_ofNat_of_zero_le hv0
              obtain ⟨wd, rfl⟩ := Int.eq_ofNat_of_zero_le hw0
              refine Z.skip ?_
              refine Z.nthen ?_
              refine Z.seq ?_
              refine Z.block ?_
              refine Z.seq ?_
              refine Z.region ?_
              refine Z.l rfl rfl (by rfl) (Z.keepS hs) (Z.Yd.elem rfl rfl Try.underlying101 Try.sizeOf71 (fun hG => ⟨(by first | omega | (have hG' := Z.gh rfl hG; simp at hG'; omega)), (by first | omega | (have hG' := Z.gh rfl hG; simp at hG'; omega))⟩)) ?_
              refine Z.l rfl rfl (by rfl) (Z.keepS hs) (Z.Yd.loadA _ rfl Try.isAgg71 (fun _ => Z.cellsX [.int .u64 (v : Int), .int .i64 (wd : Int)] hx encF_length hf rfl) (by exact Try.sizeOf71)) ?_
              refine Z.le rfl trivial ?_
              refine Z.ZO.alloc rfl rfl (by rfl) Try.zeroValue71 rfl hs ?_
              clear hs; intro g9 w9 hs
              refine Z.le rfl trivial ?_
              refine Z.ZO.storeA rfl rfl hs rfl rfl (by kernel_rfl) (by first | (simp [Value.oneCell']; done) | (refine Z.all_one ?_; assumption)) (by first | exact SX.at0 | exact SX.at1 | exact SX.at2 | exact SX.at3 | exact SX.at4 | exact SX.at5 | exact Z.at6 | exact Z.at7 | exact Z.at8 | exact Z.at9 | exact Z.at10 | exact Z.at11 | exact Z.at12) (by rfl) ?_
              clear hs; intro ws hs
              simp only [Nat.zero_add, Nat.add_zero, Nat.reduceAdd, Int.reduceToNat, Nat.reduceMul, List.set_cons_zero, List.set_cons_succ, List.setIfInBounds_toArray] at hs
              refine Z.lnil ?_
              refine Z.only [0, 9, 24, 25, 26] rfl ?_
              refine Z.nthen ?_
              refine Z.region ?_
              refine Z.lb 1 rfl ?_
              refine Z.l rfl rfl (by rfl) (Z.keepS hs) (Z.Yd.fieldA (m := 0) rfl (by kernel_rfl)) ?_
              refine Z.l rfl rfl (by rfl) (Z.keepS hs) (by first | exact Z.Yd.load rfl Try.isAgg68 (fun _ => Z.cellB (by first | ((repeat (first | exact List.mem_cons_self | refine List.mem_cons_of_mem _ ?_ | refine List.mem_append_right _ ?_)); done) | fail) rfl) | exact Z.Yd.load rfl Try.isAgg68 (fun _ => Z.cellO (by assumption) (by simp) (by assumption)) | fail "load 13.2") ?_
              refine Z.l rfl rfl (by rfl) (Z.keepS hs) (Z.Yd.fieldA (m := 1) rfl (by kernel_rfl)) ?_
              refine Z.l rfl rfl (by rfl) (Z.keepS hs) (by first | exact Z.Yd.load rfl Try.isAgg3 (fun _ => Z.cellB (by first | ((repeat (first | exact List.mem_cons_self | refine List.mem_cons_of_mem _ ?_ | refine List.mem_append_right _ ?_)); done) | fail) rfl) | exact Z.Yd.load rfl Try.isAgg3 (fun _ => Z.cellO (by assumption) (by simp) (by assumption)) | fail "load 13.4") ?_
              replace hs := hs.rot (L1 := [_])
              change SX.St _ _ _ (WrL g T sv1 _ ++ [_]) at hs
              have hlen : (bs ++ (fs.take j).flatMap fldF).length ≤ 1100000 := by
                have := flatF_length (take_zero (k := j) hz0)
                simp only [List.length_append, List.length_take] at this ⊢
                omega
              refine Z.le rfl trivial ?_
              refine Z.ZO.call rfl rfl (by rfl) rfl rfl Try.call52 rfl (put_any g T sv1 (bs ++ (fs.take j).flatMap fldF) v wd _ hs.lend (by omega) (by omega) (by omega)) ?_
              rintro v13_5 w13_5 ⟨sv2, rfl, hz⟩
              replace hs := hs.regain hz
              refine Z.lnil ?_
              refine Z.only [0, 24, 25, 26] rfl ?_
              refine Z.nblock ?_
              refine Z.nthen ?_
              refine Z.region ?_
              refine Z.l rfl rfl (by rfl) (Z.keepS hs) (Z.Yd.add rfl rfl (fun hG => Z.wi64 (by first | omega | (have hG' := Z.gh rfl hG; simp at hG'; omega)))) ?_
              refine Z.lb 1 rfl ?_
              refine Z.lnil ?_
              refine Z.only [0, 24, 25, 26] rfl ?_
              refine Z.nthen ?_
              have e : (bs ++ (fs.take j).flatMap fldF) ++ fld v wd = bs ++ (fs.take (j + 1)).flatMap fldF := by
                rw [← take_snoc hf]
                simp [fldF]
              rw [e] at hs
              exact Z.again (j + 1, sv2) (by refine ⟨?_, ?_, ?_, ?_, trivial⟩ <;> (first | rfl | (refine Z.lookv rfl ?_; simp; done) | (refine Z.lookv rfl ?_; simp; omega))) ⟨by simp only; omega, hs.sub (List.sublist_append_left _ _)⟩ (by simp only; omega)
              )
        · first
            | (exfalso; simp at hc11 <;> omega)
            | (
              (try simp at hc11)
              refine Z.exit ?_
              refine Z.xthen ?_
              refine Z.xthen ?_
              refine Z.xblock ?_
              refine Z.nthen ?_
              refine Z.seq ?_
              refine Z.region ?_
              refine Z.lb 1 rfl ?_
              refine Z.lnil ?_
              refine Z.only [4] rfl ?_
              refine Z.nthen ?_
              refine Z.ret ?_
              -- ret#1
              refine Z.out1 (by exact ⟨rfl, trivial⟩) ?_
              refine ⟨_, rfl, sv1, by rw [hz0], ?_⟩
              unfold resA
              rw [if_pos hz0]
              rw [List.take_of_length_le (by omega)] at hs
              exact hs
              )
        )

theorem wputbytes_any (g T : Nat) (sv : Value) (bs : List Bool) (A : Option Addr) (n c : Nat) (l : List Int) (w : World) (hs : SX.St w (SX.idsOf (WrL g T sv bs)) w (WrL g T sv bs))
    (hx : Sx w (SX.idsOf (WrL g T sv bs)) A (ints .u8 l)) (hl : l.length = n) (hn : n ≤ 100000) (hb : bs.length ≤ 1000000) (hB : ∀ x ∈ l, 0 ≤ x ∧ x < 256) :
    Calls Try.prog 37 #[.pointer (some ⟨g, 0, none⟩), .slice A n c] w (SX.Ret fun r w' => ∃ sv', r = .int .i64 0 ∧ SX.St w (SX.idsOf (WrL g T sv bs)) w' (WrL g T sv' (bs ++ unb l))) := by
  generalize hM : SX.idsOf (WrL g T sv bs) = M at *
  refine Z.enter Try.func37 rfl Try.ntmps37 rfl rfl ?_
  refine Z.seq ?_
  refine Z.region ?_
  refine Z.lb 1 rfl ?_
  refine Z.lnil ?_
  refine Z.only [0, 1] rfl ?_
  refine Z.nthen ?_
  refine Z.seq ?_
  refine Z.seq ?_
  refine Z.region ?_
  refine Z.lb 1 rfl ?_
  refine Z.l rfl rfl (by rfl) (Z.keepS hs) (Z.Yd.ptrNil rfl rfl Try.underlying100) ?_
  refine Z.lnil ?_
  refine Z.only [0, 1, 8] rfl ?_
  refine Z.nthen ?_
  refine Z.cond rfl (fun h => absurd h (by simp)) (fun hc1 => ?_)
  refine Z.skip ?_
  refine Z.nthen ?_
  refine Z.seq ?_
  refine Z.seq ?_
  refine Z.region ?_
  refine Z.lb 1 rfl ?_
  refine Z.l rfl rfl (by rfl) (Z.keepS hs) (Z.Yd.lenS rfl Try.underlying26) ?_
  refine Z.lb 1 rfl ?_
  refine Z.lnil ?_
  refine Z.only [0, 9, 10, 11] rfl ?_
  refine Z.nthen ?_
  refine Z.block ?_
  refine Z.loopk (ι := Nat × Value) [0, 9, 10] rfl (fun k => [(11, [], .int .i64 (k.1 : Int))]) (fun k wr => k.1 ≤ n ∧ SX.St w M wr (WrL g T k.2 (bs ++ unb (l.take k.1)))) (fun k => n - k.1) (0, sv) (by refine ⟨?_, trivial⟩ <;> (first | rfl | (refine Z.lookv rfl ?_; simp; done) | (refine Z.lookv rfl ?_; simp; omega))) ⟨by omega, by simpa [unb] using hs⟩ ?_
  clear hs
  rintro ⟨k, sv1⟩ w2 ⟨hkn, hs⟩
  refine Z.only [0, 9, 10, 11] rfl ?_
  (try dsimp only at hs)
  refine Z.seq ?_
  refine Z.region ?_
  refine Z.lb 1 rfl ?_
  refine Z.lnil ?_
  refine Z.only [0, 9, 10, 11, 12] rfl ?_
  refine Z.nthen ?_
  refine Z.seq ?_
  refine Z.cond rfl (fun hc4 => ?_) (fun hc4 => ?_)
  · first
      | (exfalso; simp at hc4 <;> omega)
      | (
        (try simp at hc4)
        obtain ⟨b, off, rfl, hx⟩ := hx.some (by simp [ints]; omega)
        have hxk : l[k]? = some (l[k]'(by omega)) := List.getElem?_eq_getElem (by omega)
        have he : elt l (k : Int) = l[k]'(by omega) := by simp [elt, show k < l.length by omega]
        have hbk := hB _ (List.mem_of_getElem? hxk)
        rw [← he] at hxk hbk
        obtain ⟨x, hxe⟩ := Int.eq_ofNat_of_zero_le hbk.1
        have hlen : (bs ++ unb (l.take k)).length ≤ 1900000 := by
          have := unb_length (l.take k)
          simp only [List.length_append, List.length_take] at this ⊢
          omega
        rw [hxe] at hxk hbk
        refine Z.skip ?_
        refine Z.nthen ?_
        refine Z.seq ?_
        refine Z.block ?_
        refine Z.seq ?_
        refine Z.region ?_
        refine Z.l rfl rfl (by rfl) (Z.keepS hs) (Z.Yd.elem rfl rfl Try.underlying26 Try.sizeOf5 (fun hG => ⟨(by first | omega | (have hG' := Z.gh rfl hG; simp at hG'; omega)), (by first | omega | (have hG' := Z.gh rfl hG; simp at hG'; omega))⟩)) ?_
        refine Z.l rfl rfl (by rfl) (Z.keepS hs) (Z.Yd.load rfl Try.isAgg5 (fun _ => hxe ▸ Z.cellXi hx (by first | omega | (have hG' := Z.gh rfl hG; simp at hG'; omega)) (by first | omega | (have hG' := Z.gh rfl hG; simp at hG'; omega)))) ?_
        refine Z.lb 1 rfl ?_
        refine Z.lnil ?_
        refine Z.only [0, 6, 9, 10, 11] rfl ?_
        refine Z.nthen ?_
        refine Z.region ?_
        refine Z.lb 2 rfl ?_
        refine Z.l rfl rfl (by rfl) (Z.keepS hs) (Z.Yd.convI rfl ⟨_, Try.underlying5⟩ Try.underlying68 (fun hG => Z.wu64 (by first | omega | (have hG' := Z.gh rfl hG; simp at hG'; omega)))) ?_
        refine Z.le rfl trivial ?_
        refine Z.ZO.call rfl rfl (by rfl) rfl rfl Try.call52 rfl (put_any g T sv1 (bs ++ unb (l.take k)) x 8 _ hs.all (by omega) (by omega) (by omega)) ?_
        rintro v6_3 w6_3 ⟨sv2, rfl, hz⟩
        replace hs := hs.regainAll hz
        refine Z.lnil ?_
        refine Z.only [0, 9, 10, 11] rfl ?_
        refine Z.nblock ?_
        refine Z.nthen ?_
        refine Z.region ?_
        refine Z.l rfl rfl (by rfl) (Z.keepS hs) (Z.Yd.add rfl rfl (fun hG => Z.wi64 (by first | omega | (have hG' := Z.gh rfl hG; simp at hG'; omega)))) ?_
        refine Z.lb 1 rfl ?_
        refine Z.lnil ?_
        refine Z.only [0, 9, 10, 11] rfl ?_
        refine Z.nthen ?_
        have e : (bs ++ unb (l.take k)) ++ fld x 8 = bs ++ unb (l.take (k + 1)) := by
          rw [← take_snoc hxk]
          simp [unb]
        rw [e] at hs
        exact Z.again (k + 1, sv2) (by refine ⟨?_, ?_, ?_, ?_, trivial⟩ <;> (first | rfl | (refine Z.lookv rfl ?_; simp; done) | (refine Z.lookv rfl ?_; simp; omega))) ⟨by simp only; omega, hs⟩ (by simp only; omega)
        )
  · first
      | (exfalso; simp at hc4 <;> omega)
      | (
        (try simp at hc4)
        refine Z.exit ?_
        refine Z.xthen ?_
        refine Z.xthen ?_
        refine Z.xblock ?_
        refine Z.nthen ?_
        refine Z.seq ?_
        refine Z.region ?_
        refine Z.lb 1 rfl ?_
        refine Z.lnil ?_
        refine Z.only [4] rfl ?_
        refine Z.nthen ?_
        refine Z.ret ?_
        -- ret#0
        refine Z.out1 (by exact ⟨rfl, trivial⟩) ?_
        rw [List.take_of_length_le (by omega)] at hs
        exact ⟨_, rfl, sv1, rfl, hs⟩
        )

theorem wbytes_any (g T : Nat) (sv : Value) (bs : List Bool) (w : World) (hs : SX.St w (SX.idsOf (WrL g T sv bs)) w (WrL g T sv bs)) (hb : bs.length ≤ 1000000) :
    Calls Try.prog 38 #[.pointer (some ⟨g, 0, none⟩)] w (SX.Ret fun r w' => SX.St w (SX.idsOf (WrL g T sv bs)) w' (SX.Ent.row r 5 1 (pk bs).length (ints .u8 (pk bs)) :: WrL g T sv bs)) := by
  generalize hM : SX.idsOf (WrL g T sv bs) = M at *
  simp only [WrL] at hs
  have hpl := pk_length bs
  obtain ⟨A, c, rfl, hl1, hl2, hx⟩ := SX.row_slv hs SX.at1
  refine Z.enter Try.func38 rfl Try.ntmps38 rfl rfl ?_
  refine Z.seq ?_
  refine Z.region ?_
  refine Z.lb 1 rfl ?_
  refine Z.lnil ?_
  refine Z.only [0] rfl ?_
  refine Z.nthen ?_
  refine Z.seq ?_
  refine Z.seq ?_
  refine Z.region ?_
  refine Z.lb 1 rfl ?_
  refine Z.l rfl rfl (by rfl) (Z.keepS hs) (Z.Yd.ptrNil rfl rfl Try.underlying100) ?_
  refine Z.lnil ?_
  refine Z.only [0, 4] rfl ?_
  refine Z.nthen ?_
  refine Z.cond rfl (fun h => absurd h (by simp)) (fun hc1 => ?_)
  refine Z.skip ?_
  refine Z.nthen ?_
  refine Z.seq ?_
  refine Z.region ?_
  refine Z.lb 1 rfl ?_
  refine Z.l rfl rfl (by rfl) (Z.keepS hs) (Z.Yd.nilc rfl rfl) ?_
  refine Z.l rfl rfl (by rfl) (Z.keepS hs) (Z.Yd.fieldA (m := 0) rfl (by kernel_rfl)) ?_
  refine Z.l rfl rfl (by rfl) (Z.keepS hs) (Z.Yd.fieldA (m := 0) rfl (by kernel_rfl)) ?_
  refine Z.l rfl rfl (by rfl) (Z.keepS hs) (by first | exact Z.Yd.load rfl Try.isAgg26 (fun _ => Z.cellB (by first | ((repeat (first | exact List.mem_cons_self | refine List.mem_cons_of_mem _ ?_ | refine List.mem_append_right _ ?_)); done) | fail) rfl) | exact Z.Yd.load rfl Try.isAgg26 (fun _ => Z.cellO (by assumption) (by simp) (by assumption)) | fail "load 3.4") ?_
  refine Z.le rfl trivial ?_
  refine Z.ZO.call rfl rfl (by rfl) rfl rfl Try.call50 rfl (clone8 [] A (pk bs).length c (pk bs) _ hx.sx rfl (by omega) (SX.row_none hs SX.at1)) ?_
  rintro v3_5 w3_5 hy
  replace hs := hs.call hy
  clear hy
  try simp only [List.cons_append, List.nil_append, List.append_nil] at hs
  refine Z.lb 1 rfl ?_
  refine Z.lnil ?_
  refine Z.only [2] rfl ?_
  refine Z.nthen ?_
  refine Z.ret ?_
  -- ret#0
  refine Z.out1 (by exact ⟨rfl, trivial⟩) ?_
  exact ⟨_, rfl, hs⟩
end Go.Proofs.Ytogjkgoiofngaaa

/- The document's PutAll; the law's few and act. -/
namespace Go.Proofs.Ytogjkgoiofngaaa
open Go.RowKit
set_option linter.unusedSimpArgs false
set_option linter.unusedVariables false

end Go.Proofs.Ytogjkgoiofngaaa

/- The law's few and act. -/
namespace Go.Proofs.Ytogjkgoiofngaaa
open Go.RowKit
set_option linter.unusedSimpArgs false
set_option linter.unusedVariables false

structure ActV where
  what : Int
  v : Int
  n : Int
  bA : Option Addr
  bc : Nat
  bl : List Int
  fA : Option Addr
  fc : Nat
  fl : List (Int × Int)
structure GoodA (W : World) (x : ActV) : Prop where
  what : -9223372036854775808 ≤ x.what ∧ x.what ≤ 9223372036854775807
  vn : GoodF (x.v, x.n)
  bl : ∀ b ∈ x.bl, 0 ≤ b ∧ b < 256
  fl : ∀ f ∈ x.fl, GoodF f
  bs : Sl W x.bA (ints .u8 x.bl)
  fs : Sl W x.fA (x.fl.flatMap encF)
  b63 : x.bl.length ≤ maxLen
  f63 : x.fl.length ≤ maxLen
end Go.Proofs.Ytogjkgoiofngaaa

/- The reader: Left, At, Get, Align, End, NewReader. -/
namespace Go.Proofs.Ytogjkgoiofngaaa
open Go.RowKit
set_option linter.unusedSimpArgs false
set_option linter.unusedVariables false

/-- the value of bits -/
def val (bs : List Bool) : Nat := bs.foldl (fun v b => 2 * v + b.toNat) 0
theorem val_snoc (bs : List Bool) (b : Bool) : val (bs ++ [b]) = 2 * val bs + b.toNat := by simp [val]
theorem val_lt (bs : List Bool) : val bs < 2 ^ bs.length := by
  have h : ∀ n (bs : List Bool), bs.length = n → val bs < 2 ^ n := by
    intro n
    induction n with
    | zero =>
      intro bs h
      obtain rfl := List.eq_nil_of_length_eq_zero h
      simp [val]
    | succ n ih =>
      intro bs h
      have hne : bs ≠ [] := by intro e; subst e; simp at h
      have e := List.dropLast_concat_getLast hne
      rw [← e, val_snoc]
      have := ih bs.dropLast (by simp; omega)
      have hb : (bs.getLast hne).toNat ≤ 1 := by cases bs.getLast hne <;> simp
      rw [Nat.pow_succ]
      omega
  exact h _ bs rfl
theorem val_bd63 {bs : List Bool} (h : bs.length ≤ 63) : val bs < 9223372036854775808 := by
  have h1 := val_lt bs
  have h2 : 2 ^ bs.length ≤ 2 ^ 63 := Nat.pow_le_pow_right (by decide) h
  have h3 : (2 : Nat) ^ 63 = 9223372036854775808 := by decide
  omega

/-- a reader at block g -/
def RdL (g T : Nat) (sv : Value) (l : List Int) (at_ : Nat) : List SX.Ent := [SX.Ent.blk g T #[sv, .int .i64 (at_ : Int)], SX.Ent.row sv 5 1 l.length (ints .u8 l)]
def bitsAt (l : List Int) (at_ n : Nat) : List Bool := ((unb l).drop at_).take n
def getE (l : List Int) (at_ : Nat) (wd : Int) : Int := if wd < 0 ∨ 64 < wd then 2 else if (8 * l.length : Int) - at_ < wd then 5 else 0
def getV (l : List Int) (at_ : Nat) (wd : Int) : Int := if getE l at_ wd = 0 then (val (bitsAt l at_ wd.toNat) : Int) else 0
def getA (l : List Int) (at_ : Nat) (wd : Int) : Nat := if getE l at_ wd = 0 then at_ + wd.toNat else at_

set_option maxRecDepth 100000 in
theorem rleft_any (g T : Nat) (sv : Value) (l : List Int) (at_ : Nat) (w : World) (hs : SX.St w (SX.idsOf (RdL g T sv l at_)) w (RdL g T sv l at_)) (hl : l.length ≤ 1000000) (ha : at_ ≤ 8 * l.length) :
    Calls Try.prog 57 #[.pointer (some ⟨g, 0, none⟩)] w (SX.Ret fun r w' => r = .int .i64 ((8 * l.length : Int) - at_) ∧ SX.St w (SX.idsOf (RdL g T sv l at_)) w' (RdL g T sv l at_)) := by
  generalize hM : SX.idsOf (RdL g T sv l at_) = M at *
  simp only [RdL] at hs
  obtain ⟨A, c, rfl, -, -, -⟩ := SX.row_slv hs (j := 1) rfl
  refine Z.enter Try.func57 rfl Try.ntmps57 rfl rfl ?_
  refine Z.seq ?_
  refine Z.region ?_
  refine Z.lb 1 rfl ?_
  refine Z.lnil ?_
  refine Z.only [0] rfl ?_
  refine Z.nthen ?_
  refine Z.seq ?_
  refine Z.seq ?_
  refine Z.region ?_
  refine Z.lb 1 rfl ?_
  refine Z.l rfl rfl (by rfl) (Z.keepS hs) (Z.Yd.ptrNil rfl rfl Try.underlying85) ?_
  refine Z.lnil ?_
  refine Z.only [0, 4] rfl ?_
  refine Z.nthen ?_
  refine Z.cond rfl (fun h => absurd h (by simp)) (fun hc1 => ?_)
  refine Z.skip ?_
  refine Z.nthen ?_
  refine Z.seq ?_
  refine Z.drawK (fun _ => true) mixed hs ?_
  clear hs; intro wd3 hs
  refine Z.tb [0] (by kernel_rfl) rfl ⟨_, hs, by first | (simp; done) | exact fun e he => List.mem_append_right _ he⟩ rfl ?_
  refine Z.t 1 rfl rfl rfl (by rfl) (by kernel_rfl) ⟨_, hs, by first | (simp; done) | exact fun e he => List.mem_append_right _ he⟩ (Z.Yd.nilc rfl rfl) ?_
  refine Z.t 2 rfl rfl rfl (by rfl) (by kernel_rfl) ⟨_, hs, by first | (simp; done) | exact fun e he => List.mem_append_right _ he⟩ (Z.Yd.fieldA (m := 0) rfl (by kernel_rfl)) ?_
  refine Z.t 3 rfl rfl rfl (by rfl) (by kernel_rfl) ⟨_, hs, by first | (simp; done) | exact fun e he => List.mem_append_right _ he⟩ (by first | exact Z.Yd.load rfl Try.isAgg26 (fun _ => Z.cellB (by first | ((repeat (first | exact List.mem_cons_self | refine List.mem_cons_of_mem _ ?_ | refine List.mem_append_right _ ?_)); done) | fail) rfl) | exact Z.Yd.load rfl Try.isAgg26 (fun _ => Z.cellO (by assumption) (by simp) (by assumption)) | fail "load 3.3") ?_
  refine Z.t 4 rfl rfl rfl (by rfl) (by kernel_rfl) ⟨_, hs, by first | (simp; done) | exact fun e he => List.mem_append_right _ he⟩ (Z.Yd.lenS rfl Try.underlying26) ?_
  refine Z.t 5 rfl rfl rfl (by rfl) (by kernel_rfl) ⟨_, hs, by first | (simp; done) | exact fun e he => List.mem_append_right _ he⟩ (Z.Yd.mul rfl rfl (fun hG => Z.wi64 (by first | omega | (have hG' := Z.gh rfl hG; simp at hG'; omega)))) ?_
  refine Z.tb [6] (by kernel_rfl) rfl ⟨_, hs, by first | (simp; done) | exact fun e he => List.mem_append_right _ he⟩ rfl ?_
  refine Z.t 7 rfl rfl rfl (by rfl) (by kernel_rfl) ⟨_, hs, by first | (simp; done) | exact fun e he => List.mem_append_right _ he⟩ (Z.Yd.nilc rfl rfl) ?_
  refine Z.t 8 rfl rfl rfl (by rfl) (by kernel_rfl) ⟨_, hs, by first | (simp; done) | exact fun e he => List.mem_append_right _ he⟩ (Z.Yd.fieldA (m := 1) rfl (by kernel_rfl)) ?_
  refine Z.t 9 rfl rfl rfl (by rfl) (by kernel_rfl) ⟨_, hs, by first | (simp; done) | exact fun e he => List.mem_append_right _ he⟩ (by first | exact Z.Yd.load rfl Try.isAgg3 (fun _ => Z.cellB (by first | ((repeat (first | exact List.mem_cons_self | refine List.mem_cons_of_mem _ ?_ | refine List.mem_append_right _ ?_)); done) | fail) rfl) | exact Z.Yd.load rfl Try.isAgg3 (fun _ => Z.cellO (by assumption) (by simp) (by assumption)) | fail "load 3.9") ?_
  refine Z.t 10 rfl rfl rfl (by rfl) (by kernel_rfl) ⟨_, hs, by first | (simp; done) | exact fun e he => List.mem_append_right _ he⟩ (Z.Yd.sub rfl rfl (fun hG => Z.wi64 (by first | omega | (have hG' := Z.gh rfl hG; simp at hG'; omega)))) ?_
  refine Z.tb [11] (by kernel_rfl) rfl ⟨_, hs, by first | (simp; done) | exact fun e he => List.mem_append_right _ he⟩ rfl ?_
  refine Z.td (by rfl) (by kernel_rfl) ?_
  refine Z.only [2] rfl ?_
  refine Z.nthen ?_
  refine Z.ret ?_
  -- ret#0
  refine Z.out1 (by exact ⟨rfl, trivial⟩) ?_
  first | exact ⟨_, rfl, rfl, hs⟩ | exact ⟨_, rfl, rfl, hs.sub (List.nil_sublist _)⟩
theorem newreader_any (A : Option Addr) (n c : Nat) (l : List Int) (w : World) (hx : Sx w [] A (ints .u8 l)) (hl : l.length = n) (hn : n ≤ 100000000) (hz : A = none → n = 0) :
    Calls Try.prog 45 #[.slice A n c] w (SX.Ret fun r w' => ∃ g sv, r = .pointer (some ⟨g, 0, none⟩) ∧ SX.St w [] w' (RdL g 106 sv l 0)) := by
  have hs := SX.St.start w
  subst hl
  refine Z.enter Try.func45 rfl Try.ntmps45 rfl rfl ?_
  refine Z.seq ?_
  refine Z.region ?_
  refine Z.lb 1 rfl ?_
  refine Z.lnil ?_
  refine Z.only [0] rfl ?_
  refine Z.nthen ?_
  refine Z.seq ?_
  refine Z.region ?_
  refine Z.lb 1 rfl ?_
  refine Z.le rfl trivial ?_
  refine Z.ZO.call rfl rfl (by rfl) rfl rfl Try.call50 rfl (clone8 [] A _ c l _ ((hx.st hs).sx) rfl hn hz) ?_
  rintro v1_1 w1_1 hy
  replace hs := hs.call hy
  clear hy
  try simp only [List.cons_append, List.nil_append, List.append_nil] at hs
  obtain ⟨Av, cv, rfl, -, -, -⟩ := SX.row_slv hs (j := 0) rfl
  refine Z.l rfl rfl (by rfl) (Z.keepS hs) (Z.Yd.build rfl (by intro w; go_simp; try rfl)) ?_
  refine Z.le rfl trivial ?_
  refine Z.ZO.box rfl rfl (by rfl) rfl rfl hs ?_
  clear hs; intro g6 w6 hs
  refine Z.lb 1 rfl ?_
  refine Z.lnil ?_
  refine Z.only [2] rfl ?_
  refine Z.nthen ?_
  refine Z.ret ?_
  -- ret#0
  refine Z.out1 (by exact ⟨rfl, trivial⟩) ?_
  exact ⟨_, rfl, _, _, rfl, hs⟩

theorem and_one8 (x : Int) (k : Nat) (h0 : 0 ≤ x) (hx : x < 256) : IntKind.u8.wrap ((BitVec.ofInt IntKind.u8.bits (x.fdiv (2 ^ (min ((7 : Int) - (k : Int) % 8).toNat IntKind.u8.bits))) &&& BitVec.ofInt IntKind.u8.bits 1).toNat : Int) = bi (x.toNat.testBit (7 - k % 8)) := by
  obtain ⟨n, rfl⟩ := Int.eq_ofNat_of_zero_le h0
  have e : min ((7 : Int) - (k : Int) % 8).toNat IntKind.u8.bits = 7 - k % 8 := by
    have : IntKind.u8.bits = 8 := rfl
    omega
  rw [e, Int.fdiv_eq_ediv_of_nonneg _ (Int.le_of_lt (Int.pow_pos (by decide))), testBit_bi, Int.toNat_natCast]
  have e2 : ((n : Int) / 2 ^ (7 - k % 8)) = ((n / 2 ^ (7 - k % 8) : Nat) : Int) := by push_cast; rfl
  rw [e2]
  have h1 : n / 2 ^ (7 - k % 8) ≤ n := Nat.div_le_self _ _
  generalize n / 2 ^ (7 - k % 8) = q at *
  have e1 : (BitVec.ofInt 8 (q : Int)).toNat = q := by rw [BitVec.ofInt_natCast, BitVec.toNat_ofNat]; exact Nat.mod_eq_of_lt (by omega)
  have e3 : (BitVec.ofInt 8 (1 : Int)).toNat = 1 := by decide
  have e4 : ((BitVec.ofInt 8 (q : Int)) &&& (BitVec.ofInt 8 (1 : Int))).toNat = q % 2 := by rw [BitVec.toNat_and, e1, e3, Nat.and_one_is_mod]
  show IntKind.u8.wrap (((BitVec.ofInt 8 (q : Int)) &&& (BitVec.ofInt 8 (1 : Int))).toNat : Int) = _
  rw [e4]
  exact Z.wu8 (by omega)
theorem u64_or (x y : Nat) (i m : Nat) (hx : x = 2 ^ i * m) (hy : y < 2 ^ i) (h : x + y < 18446744073709551616) : IntKind.u64.wrap ((BitVec.ofInt IntKind.u64.bits (x : Int) ||| BitVec.ofInt IntKind.u64.bits (y : Int)).toNat : Int) = ((x + y : Nat) : Int) := by
  have e1 : (BitVec.ofInt 64 (x : Int)).toNat = x := by rw [BitVec.ofInt_natCast, BitVec.toNat_ofNat]; exact Nat.mod_eq_of_lt (by omega)
  have e2 : (BitVec.ofInt 64 (y : Int)).toNat = y := by rw [BitVec.ofInt_natCast, BitVec.toNat_ofNat]; exact Nat.mod_eq_of_lt (by omega)
  have e3 : (BitVec.ofInt 64 (x : Int) ||| BitVec.ofInt 64 (y : Int)).toNat = x + y := by rw [BitVec.toNat_or, e1, e2, hx, ← Nat.two_pow_add_eq_or_of_lt hy, ← hx]
  show IntKind.u64.wrap (((BitVec.ofInt 64 (x : Int)) ||| (BitVec.ofInt 64 (y : Int))).toNat : Int) = _
  rw [e3]
  exact Z.wu64 (by omega)
theorem or_bit (v : Nat) (b : Bool) (hv : v < 9223372036854775808) : IntKind.u64.wrap ((BitVec.ofInt IntKind.u64.bits ((v : Int) * 2) ||| BitVec.ofInt IntKind.u64.bits (bi b)).toNat : Int) = ((2 * v + b.toNat : Nat) : Int) := by
  have := u64_or (2 * v) b.toNat 1 v (by omega) (by cases b <;> simp) (by cases b <;> simp <;> omega)
  rw [bi_nat, show ((v : Int) * 2) = ((2 * v : Nat) : Int) from by push_cast; omega]
  exact this

theorem bitsAt_length {l : List Int} {a n : Nat} (h : a + n ≤ l.length * 8) : (bitsAt l a n).length = n := by
  simp [bitsAt, unb_length]
  omega
theorem bitsAt_snoc {l : List Int} {a k : Nat} (h : a + k < l.length * 8) : bitsAt l a (k + 1) = bitsAt l a k ++ [(elt l (((a + k : Nat) : Int) / 8)).toNat.testBit (7 - (a + k) % 8)] := by
  have hg := unb_get (l := l) (k := a + k) h
  have : ((unb l).drop a)[k]? = some ((elt l (((a + k : Nat) : Int) / 8)).toNat.testBit (7 - (a + k) % 8)) := by
    rw [List.getElem?_drop]
    exact hg
  unfold bitsAt
  rw [← take_snoc this]

set_option maxRecDepth 100000 in
theorem rget_any (g T : Nat) (sv : Value) (l : List Int) (at_ : Nat) (wd : Int) (w : World) (hs : SX.St w (SX.idsOf (RdL g T sv l at_)) w (RdL g T sv l at_)) (hl : l.length ≤ 1000000) (ha : at_ ≤ 8 * l.length) (hb : ∀ x ∈ l, 0 ≤ x ∧ x < 256) :
    Calls Try.prog 63 #[.pointer (some ⟨g, 0, none⟩), .int .i64 wd] w (SX.Ret fun r w' => r = .tuple #[.int .u64 (getV l at_ wd), .int .i64 (getE l at_ wd)] ∧ SX.St w (SX.idsOf (RdL g T sv l at_)) w' (RdL g T sv l (getA l at_ wd))) := by
  generalize hM : SX.idsOf (RdL g T sv l at_) = M at *
  refine Z.enter Try.func63 rfl Try.ntmps63 rfl rfl ?_
  refine Z.seq ?_
  refine Z.region ?_
  refine Z.lb 2 rfl ?_
  refine Z.lnil ?_
  refine Z.only [0, 1, 4] rfl ?_
  refine Z.nthen ?_
  refine Z.seq ?_
  refine Z.block ?_
  refine Z.seq ?_
  refine Z.region ?_
  refine Z.lb 1 rfl ?_
  refine Z.l rfl rfl (by rfl) (Z.keepS hs) (Z.Yd.ptrNil rfl rfl Try.underlying85) ?_
  refine Z.lb 1 rfl ?_
  refine Z.lnil ?_
  refine Z.only [0, 1, 4, 6] rfl ?_
  refine Z.nthen ?_
  refine Z.cond rfl (fun h => absurd h (by simp)) (fun hc1 => ?_)
  refine Z.seq ?_
  refine Z.region ?_
  refine Z.lb 7 rfl ?_
  refine Z.lnil ?_
  refine Z.only [0, 1, 4, 9] rfl ?_
  refine Z.nthen ?_
  refine Z.cond rfl (fun hc3 => ?_) (fun hc3 => ?_)
  · first
      | (exfalso; simp at hc3 <;> omega)
      | (
        (try simp at hc3)
        refine Z.seq ?_
        refine Z.region ?_
        refine Z.lb 2 rfl ?_
        refine Z.lnil ?_
        refine Z.only [4, 5] rfl ?_
        refine Z.nthen ?_
        refine Z.ret ?_
        repeat (first | refine Z.rthen ?_ | refine Z.rblock ?_ | refine Z.rscope ?_)
        -- ret#0
        refine Z.out2 (by exact ⟨rfl, rfl, trivial⟩) ?_
        have e : getE l at_ wd = 2 := by unfold getE; rw [if_pos (by omega)]
        refine ⟨_, rfl, by unfold getV; rw [e]; rfl, ?_⟩
        unfold getA; rw [e]
        exact hs
        )
  · first
      | (exfalso; simp at hc3 <;> omega)
      | (
        (try simp at hc3)
        refine Z.seq ?_
        refine Z.region ?_
        refine Z.lb 2 rfl ?_
        refine Z.le rfl trivial ?_
        refine Z.ZO.call rfl rfl (by rfl) rfl rfl Try.call57 rfl (rleft_any g T sv l at_ _ hs.all hl ha) ?_
        rintro v5_2 w5_2 ⟨rfl, hz⟩
        replace hs := hs.regainAll hz
        refine Z.lb 2 rfl ?_
        refine Z.lnil ?_
        refine Z.only [0, 1, 4, 16] rfl ?_
        refine Z.nthen ?_
        refine Z.cond rfl (fun hc5 => ?_) (fun hc5 => ?_)
        · first
            | (exfalso; simp at hc5 <;> omega)
            | (
              (try simp at hc5)
              refine Z.seq ?_
              refine Z.region ?_
              refine Z.lb 2 rfl ?_
              refine Z.lnil ?_
              refine Z.only [4, 5] rfl ?_
              refine Z.nthen ?_
              refine Z.ret ?_
              repeat (first | refine Z.rthen ?_ | refine Z.rblock ?_ | refine Z.rscope ?_)
              -- ret#1
              refine Z.out2 (by exact ⟨rfl, rfl, trivial⟩) ?_
              have e : getE l at_ wd = 5 := by unfold getE; rw [if_neg (by omega), if_pos (by omega)]
              refine ⟨_, rfl, by unfold getV; rw [e]; rfl, ?_⟩
              unfold getA; rw [e]
              exact hs
              )
        · first
            | (exfalso; simp at hc5 <;> omega)
            | (
              (try simp at hc5)
              refine Z.skip ?_
              refine Z.nblock ?_
              refine Z.nthen ?_
              refine Z.seq ?_
              refine Z.seq ?_
              refine Z.region ?_
              have e : getE l at_ wd = 0 := by unfold getE; rw [if_neg (by omega), if_neg (by omega)]
              obtain ⟨wd, rfl⟩ := Int.eq_ofNat_of_zero_le (show 0 ≤ wd by omega)
              refine Z.l rfl rfl (by rfl) (Z.keepS hs) (Z.Yd.pure rfl) ?_
              refine Z.lb 1 rfl ?_
              refine Z.lnil ?_
              refine Z.only [0, 4, 21, 22] rfl ?_
              refine Z.nthen ?_
              refine Z.block ?_
              refine Z.loopk (ι := Nat) [0, 21] rfl (fun k => [(4, [], .int .u64 (val (bitsAt l at_ k) : Int)), (22, [], .int .i64 (k : Int))]) (fun k wr => k ≤ wd ∧ SX.St w M wr [SX.Ent.blk g T #[sv, .int .i64 ((at_ + k : Nat) : Int)], SX.Ent.row sv 5 1 l.length (ints .u8 l)]) (fun k => wd - k) 0 (by refine ⟨?_, ?_, trivial⟩ <;> (first | rfl | (refine Z.lookv rfl ?_; simp; done) | (refine Z.lookv rfl ?_; simp; omega))) ⟨by omega, hs⟩ ?_
              clear hs
              rintro k w1 ⟨hkn, hs⟩
              refine Z.only [0, 4, 21, 22] rfl ?_
              refine Z.seq ?_
              refine Z.region ?_
              refine Z.lb 1 rfl ?_
              refine Z.lnil ?_
              refine Z.only [0, 4, 21, 22, 23] rfl ?_
              refine Z.nthen ?_
              refine Z.seq ?_
              refine Z.cond rfl (fun hc8 => ?_) (fun hc8 => ?_)
              · first
                  | (exfalso; simp at hc8 <;> omega)
                  | (
                    (try simp at hc8)
                    obtain ⟨g1, cap1, rfl, hc1, hc2⟩ := row_form (j := 1) hs rfl (by omega)
                    have hv := val_bd63 (bs := bitsAt l at_ k) (by rw [bitsAt_length (by omega)]; omega)
                    have he := hb _ (Z.elt_mem (l := l) (z := ((at_ + k : Nat) : Int) / 8) (by omega) (by omega))
                    refine Z.skip ?_
                    refine Z.nthen ?_
                    refine Z.seq ?_
                    refine Z.block ?_
                    refine Z.seq ?_
                    refine Z.drawK (fun _ => true) mixed hs ?_
                    clear hs; intro wd9 hs
                    refine Z.tb [0] (by kernel_rfl) rfl ⟨_, hs, by first | (simp; done) | exact fun e he => List.mem_append_right _ he⟩ rfl ?_
                    refine Z.t 1 rfl rfl rfl (by rfl) (by kernel_rfl) ⟨_, hs, by first | (simp; done) | exact fun e he => List.mem_append_right _ he⟩ (Z.Yd.shl rfl rfl (by intro hG; decide) (by intro hG; first | exact Z.shll (c := 2) rfl (Z.wu64 (by omega)) | exact Z.shll (c := 2) rfl rfl)) ?_
                    refine Z.tb [2] (by kernel_rfl) rfl ⟨_, hs, by first | (simp; done) | exact fun e he => List.mem_append_right _ he⟩ rfl ?_
                    refine Z.t 3 rfl rfl rfl (by rfl) (by kernel_rfl) ⟨_, hs, by first | (simp; done) | exact fun e he => List.mem_append_right _ he⟩ (Z.Yd.nilc rfl rfl) ?_
                    refine Z.t 4 rfl rfl rfl (by rfl) (by kernel_rfl) ⟨_, hs, by first | (simp; done) | exact fun e he => List.mem_append_right _ he⟩ (Z.Yd.fieldA (m := 0) rfl (by kernel_rfl)) ?_
                    refine Z.t 5 rfl rfl rfl (by rfl) (by kernel_rfl) ⟨_, hs, by first | (simp; done) | exact fun e he => List.mem_append_right _ he⟩ (by first | exact Z.Yd.load rfl Try.isAgg26 (fun _ => Z.cellB (by first | ((repeat (first | exact List.mem_cons_self | refine List.mem_cons_of_mem _ ?_ | refine List.mem_append_right _ ?_)); done) | fail) rfl) | exact Z.Yd.load rfl Try.isAgg26 (fun _ => Z.cellO (by assumption) (by simp) (by assumption)) | fail "load 9.5") ?_
                    refine Z.tb [6] (by kernel_rfl) rfl ⟨_, hs, by first | (simp; done) | exact fun e he => List.mem_append_right _ he⟩ rfl ?_
                    refine Z.t 7 rfl rfl rfl (by rfl) (by kernel_rfl) ⟨_, hs, by first | (simp; done) | exact fun e he => List.mem_append_right _ he⟩ (Z.Yd.nilc rfl rfl) ?_
                    refine Z.t 8 rfl rfl rfl (by rfl) (by kernel_rfl) ⟨_, hs, by first | (simp; done) | exact fun e he => List.mem_append_right _ he⟩ (Z.Yd.fieldA (m := 1) rfl (by kernel_rfl)) ?_
                    refine Z.t 9 rfl rfl rfl (by rfl) (by kernel_rfl) ⟨_, hs, by first | (simp; done) | exact fun e he => List.mem_append_right _ he⟩ (by first | exact Z.Yd.load rfl Try.isAgg3 (fun _ => Z.cellB (by first | ((repeat (first | exact List.mem_cons_self | refine List.mem_cons_of_mem _ ?_ | refine List.mem_append_right _ ?_)); done) | fail) rfl) | exact Z.Yd.load rfl Try.isAgg3 (fun _ => Z.cellO (by assumption) (by simp) (by assumption)) | fail "load 9.9") ?_
                    refine Z.t 10 rfl rfl rfl (by rfl) (by kernel_rfl) ⟨_, hs, by first | (simp; done) | exact fun e he => List.mem_append_right _ he⟩ (Z.Yd.quo rfl rfl (by intro hG; first | decide | omega) (by intro hG; first | exact Z.qi64 ⟨by omega, by omega⟩ (by omega) | exact rfl)) ?_
                    refine Z.t 11 rfl rfl rfl (by rfl) (by kernel_rfl) ⟨_, hs, by first | (simp; done) | exact fun e he => List.mem_append_right _ he⟩ (Z.Yd.elem rfl rfl Try.underlying26 Try.sizeOf5 (fun hG => ⟨(by first | omega | (have hG' := Z.gh rfl hG; simp at hG'; omega)), (by first | omega | (have hG' := Z.gh rfl hG; simp at hG'; omega))⟩)) ?_
                    refine Z.t 12 rfl rfl rfl (by rfl) (by kernel_rfl) ⟨_, hs, by first | (simp; done) | exact fun e he => List.mem_append_right _ he⟩ (by first | exact Z.Yd.load rfl Try.isAgg5 (fun hG => Z.cellR (by first | ((repeat (first | exact List.mem_cons_self | refine List.mem_cons_of_mem _ ?_ | refine List.mem_append_right _ ?_)); done) | fail) (Z.ints_at (by first | omega | (have hG' := Z.gh rfl hG; simp at hG'; omega)) (by first | omega | (have hG' := Z.gh rfl hG; simp at hG'; omega)))) | exact Z.Yd.load rfl Try.isAgg5 (fun hG => Z.cellXi (by assumption) (by first | omega | (have hG' := Z.gh rfl hG; simp at hG'; omega)) (by first | omega | (have hG' := Z.gh rfl hG; simp at hG'; omega))) | exact Z.Yd.load rfl Try.isAgg5 (fun hG => Z.cellS (by assumption) rfl (by first | omega | (have hG' := Z.gh rfl hG; simp at hG'; omega)) (by first | omega | (have hG' := Z.gh rfl hG; simp at hG'; omega))) | fail "load 9.12") ?_
                    refine Z.tb [13] (by kernel_rfl) rfl ⟨_, hs, by first | (simp; done) | exact fun e he => List.mem_append_right _ he⟩ rfl ?_
                    refine Z.t 14 rfl rfl rfl (by rfl) (by kernel_rfl) ⟨_, hs, by first | (simp; done) | exact fun e he => List.mem_append_right _ he⟩ (Z.Yd.nilc rfl rfl) ?_
                    refine Z.t 15 rfl rfl rfl (by rfl) (by kernel_rfl) ⟨_, hs, by first | (simp; done) | exact fun e he => List.mem_append_right _ he⟩ (Z.Yd.fieldA (m := 1) rfl (by kernel_rfl)) ?_
                    refine Z.t 16 rfl rfl rfl (by rfl) (by kernel_rfl) ⟨_, hs, by first | (simp; done) | exact fun e he => List.mem_append_right _ he⟩ (by first | exact Z.Yd.load rfl Try.isAgg3 (fun _ => Z.cellB (by first | ((repeat (first | exact List.mem_cons_self | refine List.mem_cons_of_mem _ ?_ | refine List.mem_append_right _ ?_)); done) | fail) rfl) | exact Z.Yd.load rfl Try.isAgg3 (fun _ => Z.cellO (by assumption) (by simp) (by assumption)) | fail "load 9.16") ?_
                    refine Z.t 17 rfl rfl rfl (by rfl) (by kernel_rfl) ⟨_, hs, by first | (simp; done) | exact fun e he => List.mem_append_right _ he⟩ (Z.Yd.rem rfl rfl (by intro hG; first | decide | omega) (by intro hG; first | exact Z.tmodn (by omega) | exact rfl)) ?_
                    refine Z.t 18 rfl rfl rfl (by rfl) (by kernel_rfl) ⟨_, hs, by first | (simp; done) | exact fun e he => List.mem_append_right _ he⟩ (Z.Yd.sub rfl rfl (fun hG => Z.wi64 (by first | omega | (have hG' := Z.gh rfl hG; simp at hG'; omega)))) ?_
                    refine Z.t 19 rfl rfl rfl (by rfl) (by kernel_rfl) ⟨_, hs, by first | (simp; done) | exact fun e he => List.mem_append_right _ he⟩ (Z.Yd.shr rfl rfl (by intro hG; first | decide | omega) (fun _ => rfl)) ?_
                    refine Z.t 20 rfl rfl rfl (by rfl) (by kernel_rfl) ⟨_, hs, by first | (simp; done) | exact fun e he => List.mem_append_right _ he⟩ (Z.Yd.and rfl rfl (fun _ => and_one8 _ (at_ + k) he.1 he.2)) ?_
                    refine Z.t 21 rfl rfl rfl (by rfl) (by kernel_rfl) ⟨_, hs, by first | (simp; done) | exact fun e he => List.mem_append_right _ he⟩ (Z.Yd.convI rfl ⟨_, Try.underlying5⟩ Try.underlying68 (fun _ => Z.wu64 (by have := bi_bd ((elt l (((at_ + k : Nat) : Int) / 8)).toNat.testBit (7 - (at_ + k) % 8)); omega))) ?_
                    refine Z.t 22 rfl rfl rfl (by rfl) (by kernel_rfl) ⟨_, hs, by first | (simp; done) | exact fun e he => List.mem_append_right _ he⟩ (Z.Yd.or rfl rfl (fun _ => or_bit _ _ hv)) ?_
                    refine Z.tb [23] (by kernel_rfl) rfl ⟨_, hs, by first | (simp; done) | exact fun e he => List.mem_append_right _ he⟩ rfl ?_
                    refine Z.td (by rfl) (by kernel_rfl) ?_
                    refine Z.only [0, 4, 21, 22] rfl ?_
                    refine Z.nthen ?_
                    refine Z.region ?_
                    refine Z.lb 1 rfl ?_
                    refine Z.l rfl rfl (by rfl) (Z.keepS hs) (Z.Yd.nilc rfl rfl) ?_
                    refine Z.l rfl rfl (by rfl) (Z.keepS hs) (Z.Yd.fieldA (m := 1) rfl (by kernel_rfl)) ?_
                    refine Z.l rfl rfl (by rfl) (Z.keepS hs) (by first | exact Z.Yd.load rfl Try.isAgg3 (fun _ => Z.cellB (by first | ((repeat (first | exact List.mem_cons_self | refine List.mem_cons_of_mem _ ?_ | refine List.mem_append_right _ ?_)); done) | fail) rfl) | exact Z.Yd.load rfl Try.isAgg3 (fun _ => Z.cellO (by assumption) (by simp) (by assumption)) | fail "load 10.3") ?_
                    refine Z.l rfl rfl (by rfl) (Z.keepS hs) (Z.Yd.add rfl rfl (fun hG => Z.wi64 (by first | omega | (have hG' := Z.gh rfl hG; simp at hG'; omega)))) ?_
                    refine Z.l rfl rfl (by rfl) (Z.keepS hs) (Z.Yd.nilc rfl rfl) ?_
                    refine Z.l rfl rfl (by rfl) (Z.keepS hs) (Z.Yd.fieldA (m := 1) rfl (by kernel_rfl)) ?_
                    refine Z.le rfl trivial ?_
                    first | refine Z.ZO.store rfl rfl hs Try.sizeOf3 rfl rfl rfl (by first | exact SX.at0 | exact SX.at1 | exact SX.at2 | exact SX.at3 | exact SX.at4 | exact SX.at5 | exact Z.at6 | exact Z.at7 | exact Z.at8 | exact Z.at9 | exact Z.at10 | exact Z.at11 | exact Z.at12) (by first | (simp; done) | (simp; omega)) ?_ | refine Z.ZO.storeR rfl rfl hs Try.sizeOf3 rfl rfl rfl (by first | exact SX.at0 | exact SX.at1 | exact SX.at2 | exact SX.at3 | exact SX.at4 | exact SX.at5 | exact Z.at6 | exact Z.at7 | exact Z.at8 | exact Z.at9 | exact Z.at10 | exact Z.at11 | exact Z.at12) (by first | omega | (simp [ints_length]; done) | (simp [ints_length]; omega)) ?_
                    clear hs; intro ws hs
                    simp only [Nat.zero_add, Nat.add_zero, Nat.reduceAdd, Int.reduceToNat, Nat.reduceMul, List.set_cons_zero, List.set_cons_succ, List.setIfInBounds_toArray] at hs
                    refine Z.lnil ?_
                    refine Z.only [0, 4, 21, 22] rfl ?_
                    refine Z.nblock ?_
                    refine Z.nthen ?_
                    refine Z.region ?_
                    refine Z.l rfl rfl (by rfl) (Z.keepS hs) (Z.Yd.add rfl rfl (fun hG => Z.wi64 (by first | omega | (have hG' := Z.gh rfl hG; simp at hG'; omega)))) ?_
                    refine Z.lb 1 rfl ?_
                    refine Z.lnil ?_
                    refine Z.only [0, 4, 21, 22] rfl ?_
                    refine Z.nthen ?_
                    have e2 : ((at_ + k : Nat) : Int) + 1 = ((at_ + (k + 1) : Nat) : Int) := by push_cast; omega
                    rw [e2] at hs
                    refine Z.again (k + 1) ?_ ⟨by omega, hs⟩ (by omega)
                    rw [bitsAt_snoc (by omega), val_snoc]
                    exact (by refine ⟨?_, ?_, ?_, ?_, trivial⟩ <;> (first | rfl | (refine Z.lookv rfl ?_; simp; done) | (refine Z.lookv rfl ?_; simp; omega)))
                    )
              · first
                  | (exfalso; simp at hc8 <;> omega)
                  | (
                    (try simp at hc8)
                    refine Z.exit ?_
                    refine Z.xthen ?_
                    refine Z.xthen ?_
                    refine Z.xblock ?_
                    refine Z.nthen ?_
                    refine Z.seq ?_
                    refine Z.region ?_
                    refine Z.lb 3 rfl ?_
                    refine Z.lnil ?_
                    refine Z.only [4, 5] rfl ?_
                    refine Z.nthen ?_
                    refine Z.ret ?_
                    -- ret#2
                    refine Z.out2 (by exact ⟨rfl, rfl, trivial⟩) ?_
                    obtain rfl : k = wd := by omega
                    refine ⟨_, rfl, by unfold getV; rw [e]; rfl, ?_⟩
                    unfold getA; rw [e]
                    exact hs
                    )
              )
        )
end Go.Proofs.Ytogjkgoiofngaaa

/- The reader: Align, End. -/
namespace Go.Proofs.Ytogjkgoiofngaaa
open Go.RowKit
set_option linter.unusedSimpArgs false
set_option linter.unusedVariables false

theorem getE_ok {l : List Int} {a : Nat} {n : Nat} (h : a + n ≤ 8 * l.length) (h2 : n ≤ 64) : getE l a (n : Int) = 0 := by
  unfold getE
  rw [if_neg (by omega), if_neg (by omega)]

theorem WrL_start {w0 w : World} {M : List Nat} {L : List SX.Ent} {g T : Nat} (hs : SX.St w0 M w (SX.Ent.blk g T #[.slice none 0 0, .int .i64 0] :: L)) : SX.St w0 M w (WrL g T (.slice none 0 0) [] ++ L) := by
  have h := hs.nil 5 1
  exact h.perm (List.Perm.swap _ _ _)

def b9 : List Bool := [true, false, true, false, false, false, false, false, true]
end Go.Proofs.Ytogjkgoiofngaaa

/- FieldWrites. -/
namespace Go.Proofs.Ytogjkgoiofngaaa
open Go.RowKit
set_option linter.unusedSimpArgs false
set_option linter.unusedVariables false

end Go.Proofs.Ytogjkgoiofngaaa

/- Arguments of the chapter's laws, asz they are read. -/
namespace Go.Proofs.Ytogjkgoiofngaaa
open Go.RowKit
set_option linter.unusedSimpArgs false
set_option linter.unusedVariables false

theorem flat_ints (k : IntKind) (l : List Int) : l.flatMap (fun x => [Value.int k x]) = ints k l := by
  induction l with
  | nil => rfl
  | cons x l ih => rw [List.flatMap_cons, ih]; rfl
theorem rd_bytes {W : World} {A : Option Addr} {n c : Nat} (z : Rd Try.prog W 26 [.slice A n c]) : ∃ l : List Int, l.length = n ∧ n ≤ maxLen ∧ (∀ x ∈ l, 0 ≤ x ∧ x < 256) ∧ Sl W A (ints .u8 l) := by
  have c1 : Try.prog.cellsOf 5 = 1 := by kernel_rfl
  obtain ⟨xs, h1, h2, h3, h4, h5⟩ := Rd.rows (fun x : Int => [Value.int .u8 x]) (fun x => 0 ≤ x ∧ x < 256) Try.underlying26 (by rw [c1]; decide)
    (fun r hr => by
      obtain ⟨x, hx, wx⟩ := Rd.int Try.underlying5 hr
      have := wf_u8 wx
      exact ⟨x, hx, this.1, by omega⟩) (fun x => c1.symm) z
  rw [flat_ints] at h5
  exact ⟨xs, h1, Nat.le_trans h2 h3, h4, h5⟩
end Go.Proofs.Ytogjkgoiofngaaa

/- FieldOwn. -/
namespace Go.Proofs.Ytogjkgoiofngaaa
open Go.RowKit
set_option linter.unusedSimpArgs false
set_option linter.unusedVariables false

theorem ints_set {k : IntKind} {l : List Int} {i : Nat} {z : Int} : (ints k l).set i (.int k z) = ints k (l.set i z) := by
  simp only [ints]
  rw [List.map_set]

end Go.Proofs.Ytogjkgoiofngaaa

/- Several reads, and back if one fails. -/
namespace Go.Proofs.Ytogjkgoiofngaaa
open Go.RowKit
set_option linter.unusedSimpArgs false
set_option linter.unusedVariables false

def gsA (l : List Int) (a : Nat) (ws : List Int) : Nat := ws.foldl (fun p w => getA l p w) a
def gsV (l : List Int) : Nat → List Int → List Int
  | _, [] => []
  | a, w :: ws => getV l a w :: gsV l (getA l a w) ws
def gsE (l : List Int) : Nat → List Int → Int
  | _, [] => 0
  | a, w :: ws => if getE l a w = 0 then gsE l (getA l a w) ws else getE l a w
theorem gsA_app (l : List Int) (a : Nat) (xs ys : List Int) : gsA l a (xs ++ ys) = gsA l (gsA l a xs) ys := by simp [gsA]
theorem gsV_app (l : List Int) : ∀ (xs : List Int) (a : Nat) (ys : List Int), gsV l a (xs ++ ys) = gsV l a xs ++ gsV l (gsA l a xs) ys
  | [], a, ys => rfl
  | x :: xs, a, ys => by
    have := gsV_app l xs (getA l a x) ys
    simp only [List.cons_append, gsV, this]
    rfl
theorem gsE_app (l : List Int) : ∀ (xs : List Int) (a : Nat) (ys : List Int), gsE l a xs = 0 → gsE l a (xs ++ ys) = gsE l (gsA l a xs) ys
  | [], a, ys, _ => rfl
  | x :: xs, a, ys, h => by
    by_cases hx : getE l a x = 0
    · simp only [gsE, if_pos hx, List.cons_append] at h ⊢
      have := gsE_app l xs (getA l a x) ys h
      rw [this]
      rfl
    · simp only [gsE, if_neg hx] at h
      exact absurd h hx
theorem gsV_length (l : List Int) : ∀ (ws : List Int) (a : Nat), (gsV l a ws).length = ws.length
  | [], _ => rfl
  | w :: ws, a => by simp [gsV, gsV_length l ws]
theorem gsE_at {l : List Int} {a k : Nat} {ws : List Int} {x : Int} (h : ws[k]? = some x) (h0 : gsE l a (ws.take k) = 0) (hx : getE l (gsA l a (ws.take k)) x ≠ 0) : gsE l a ws = getE l (gsA l a (ws.take k)) x := by
  have e : ws = ws.take (k + 1) ++ ws.drop (k + 1) := (List.take_append_drop _ _).symm
  rw [← take_snoc h] at e
  conv => lhs; rw [e, List.append_assoc, gsE_app l _ _ _ h0]
  simp [gsE, hx]
theorem gs_snoc {l : List Int} {a k : Nat} {ws : List Int} {x : Int} (h : ws[k]? = some x) (h0 : gsE l a (ws.take k) = 0) (hx : getE l (gsA l a (ws.take k)) x = 0) :
    gsE l a (ws.take (k + 1)) = 0 ∧ gsA l a (ws.take (k + 1)) = getA l (gsA l a (ws.take k)) x ∧ gsV l a (ws.take (k + 1)) = gsV l a (ws.take k) ++ [getV l (gsA l a (ws.take k)) x] := by
  rw [← take_snoc h]
  refine ⟨?_, ?_, ?_⟩
  · rw [gsE_app l _ _ _ h0]; simp [gsE, hx]
  · rw [gsA_app]; rfl
  · rw [gsV_app]; rfl
theorem getA_le {l : List Int} {a : Nat} {w : Int} (h : a ≤ 8 * l.length) : getA l a w ≤ 8 * l.length := by
  unfold getA
  split
  · rename_i h1
    unfold getE at h1
    split at h1
    · simp at h1
    · split at h1
      · simp at h1
      · omega
  · exact h
theorem gsA_le {l : List Int} : ∀ {ws : List Int} {a : Nat}, a ≤ 8 * l.length → gsA l a ws ≤ 8 * l.length
  | [], a, h => h
  | w :: ws, a, h => gsA_le (ws := ws) (getA_le h)

/-- what the reader's call that was put off looks at -/
def dfL (ge gf gr go g T To : Nat) (svb so : Value) (e : Int) (from_ a : Nat) : List SX.Ent :=
  [SX.Ent.blk ge 27 #[.int .i64 e], SX.Ent.blk gf 3 #[.int .i64 (from_ : Int)], SX.Ent.blk gr 85 #[.pointer (some ⟨g, 0, none⟩)], SX.Ent.blk go To #[so], SX.Ent.blk g T #[svb, .int .i64 (a : Int)]]

end Go.Proofs.Ytogjkgoiofngaaa

/- Several bytes read, and back if one fails. -/
namespace Go.Proofs.Ytogjkgoiofngaaa
open Go.RowKit
set_option linter.unusedSimpArgs false
set_option linter.unusedVariables false

theorem getV8 (l : List Int) (a : Nat) : 0 ≤ getV l a 8 ∧ getV l a 8 < 256 := by
  unfold getV
  split
  · have h := val_lt (bitsAt l a (8 : Int).toNat)
    have h2 : (bitsAt l a (8 : Int).toNat).length ≤ 8 := by simp [bitsAt]; omega
    have h3 : 2 ^ (bitsAt l a (8 : Int).toNat).length ≤ 2 ^ 8 := Nat.pow_le_pow_right (by decide) h2
    have h4 : (2 : Nat) ^ 8 = 256 := by decide
    omega
  · decide
theorem octet_any (g T : Nat) (sv : Value) (l : List Int) (at_ : Nat) (x : Int) (w : World) (hs : SX.St w (SX.idsOf (RdL g T sv l at_)) w (RdL g T sv l at_)) (hl : l.length ≤ 1000000) (ha : at_ ≤ 8 * l.length) (hb : ∀ x ∈ l, 0 ≤ x ∧ x < 256) :
    Calls Try.prog 65 #[.pointer (some ⟨g, 0, none⟩), .int .i64 x] w (SX.Ret fun r w' => r = .tuple #[.int .u8 (getV l at_ 8), .int .i64 (getE l at_ 8)] ∧ SX.St w (SX.idsOf (RdL g T sv l at_)) w' (RdL g T sv l (getA l at_ 8))) := by
  generalize hM : SX.idsOf (RdL g T sv l at_) = M at *
  have hv := getV8 l at_
  refine Z.enter Try.func65 rfl Try.ntmps65 rfl rfl ?_
  refine Z.seq ?_
  refine Z.region ?_
  refine Z.lb 2 rfl ?_
  refine Z.lnil ?_
  refine Z.only [0] rfl ?_
  refine Z.nthen ?_
  refine Z.seq ?_
  refine Z.region ?_
  refine Z.lb 1 rfl ?_
  refine Z.le rfl trivial ?_
  refine Z.ZO.call rfl rfl (by rfl) rfl rfl Try.call63 rfl (rget_any g T sv l at_ 8 _ hs.all hl ha hb) ?_
  rintro v1_1 w1_1 ⟨rfl, hz⟩
  replace hs := hs.regainAll hz
  refine Z.lb 5 rfl ?_
  refine Z.lnil ?_
  refine Z.only [6, 7] rfl ?_
  refine Z.nthen ?_
  refine Z.seq ?_
  refine Z.region ?_
  refine Z.lb 1 rfl ?_
  refine Z.l rfl rfl (by rfl) (Z.keepS hs) (Z.Yd.convI rfl ⟨_, Try.underlying68⟩ Try.underlying5 (fun hG => Z.wu8 (by first | omega | (have hG' := Z.gh rfl hG; simp at hG'; omega)))) ?_
  refine Z.lb 3 rfl ?_
  refine Z.lnil ?_
  refine Z.only [4, 5] rfl ?_
  refine Z.nthen ?_
  refine Z.ret ?_
  -- ret#0
  refine Z.out2 (by exact ⟨rfl, rfl, trivial⟩) ?_
  first | exact ⟨_, rfl, rfl, hs⟩ | exact ⟨_, rfl, rfl, hs.sub (List.nil_sublist _)⟩

theorem back8 (ge gf gr go g T : Nat) (svb so : Value) (e : Int) (from_ a : Nat) (w : World) (hs : SX.St w (SX.idsOf (dfL ge gf gr go g T 26 svb so e from_ a)) w (dfL ge gf gr go g T 26 svb so e from_ a)) :
    CallsDf Try.prog 67 #[.pointer (some ⟨ge, 0, none⟩), .pointer (some ⟨gf, 0, none⟩), .pointer (some ⟨gr, 0, none⟩), .pointer (some ⟨go, 0, none⟩)] w (fun _ w' =>
      SX.St w (SX.idsOf (dfL ge gf gr go g T 26 svb so e from_ a)) w' (dfL ge gf gr go g T 26 svb (if e = 0 then so else .slice none 0 0) e from_ (if e = 0 then a else from_))) := by
  generalize hM : SX.idsOf (dfL ge gf gr go g T 26 svb so e from_ a) = M at *
  simp only [dfL] at hs
  refine Z.enterDf Try.func67 rfl Try.ntmps67 rfl rfl ?_
  refine Z.seq ?_
  refine Z.region ?_
  refine Z.l rfl rfl (by rfl) (Z.keepS hs) (by first | exact Z.Yd.load rfl Try.isAgg27 (fun _ => Z.cellB (by first | ((repeat (first | exact List.mem_cons_self | refine List.mem_cons_of_mem _ ?_ | refine List.mem_append_right _ ?_)); done) | fail) rfl) | exact Z.Yd.load rfl Try.isAgg27 (fun _ => Z.cellO (by assumption) (by simp) (by assumption)) | fail "load 0.0") ?_
  refine Z.lb 1 rfl ?_
  refine Z.lnil ?_
  refine Z.only [1, 2, 3, 5] rfl ?_
  refine Z.nthen ?_
  refine Z.cond rfl (fun hc0 => ?_) (fun hc0 => ?_)
  · first
      | (exfalso; simp at hc0 <;> omega)
      | (
        (try simp at hc0)
        refine Z.region ?_
        refine Z.l rfl rfl (by rfl) (Z.keepS hs) (by first | exact Z.Yd.load rfl Try.isAgg85 (fun _ => Z.cellB (by first | ((repeat (first | exact List.mem_cons_self | refine List.mem_cons_of_mem _ ?_ | refine List.mem_append_right _ ?_)); done) | fail) rfl) | exact Z.Yd.load rfl Try.isAgg85 (fun _ => Z.cellO (by assumption) (by simp) (by assumption)) | fail "load 1.0") ?_
        refine Z.l rfl rfl (by rfl) (Z.keepS hs) (by first | exact Z.Yd.load rfl Try.isAgg3 (fun _ => Z.cellB (by first | ((repeat (first | exact List.mem_cons_self | refine List.mem_cons_of_mem _ ?_ | refine List.mem_append_right _ ?_)); done) | fail) rfl) | exact Z.Yd.load rfl Try.isAgg3 (fun _ => Z.cellO (by assumption) (by simp) (by assumption)) | fail "load 1.1") ?_
        refine Z.l rfl rfl (by rfl) (Z.keepS hs) (Z.Yd.nilc rfl rfl) ?_
        refine Z.l rfl rfl (by rfl) (Z.keepS hs) (Z.Yd.fieldA (m := 1) rfl (by kernel_rfl)) ?_
        refine Z.le rfl trivial ?_
        first | refine Z.ZO.store rfl rfl hs Try.sizeOf3 rfl rfl rfl (by first | exact SX.at0 | exact SX.at1 | exact SX.at2 | exact SX.at3 | exact SX.at4 | exact SX.at5 | exact Z.at6 | exact Z.at7 | exact Z.at8 | exact Z.at9 | exact Z.at10 | exact Z.at11 | exact Z.at12) (by first | (simp; done) | (simp; omega)) ?_ | refine Z.ZO.storeR rfl rfl hs Try.sizeOf3 rfl rfl rfl (by first | exact SX.at0 | exact SX.at1 | exact SX.at2 | exact SX.at3 | exact SX.at4 | exact SX.at5 | exact Z.at6 | exact Z.at7 | exact Z.at8 | exact Z.at9 | exact Z.at10 | exact Z.at11 | exact Z.at12) (by first | omega | (simp [ints_length]; done) | (simp [ints_length]; omega)) ?_
        clear hs; intro ws hs
        simp only [Nat.zero_add, Nat.add_zero, Nat.reduceAdd, Int.reduceToNat, Nat.reduceMul, List.set_cons_zero, List.set_cons_succ, List.setIfInBounds_toArray] at hs
        refine Z.le rfl trivial ?_
        first | refine Z.ZO.store rfl rfl hs Try.sizeOf26 rfl rfl rfl (by first | exact SX.at0 | exact SX.at1 | exact SX.at2 | exact SX.at3 | exact SX.at4 | exact SX.at5 | exact Z.at6 | exact Z.at7 | exact Z.at8 | exact Z.at9 | exact Z.at10 | exact Z.at11 | exact Z.at12) (by first | (simp; done) | (simp; omega)) ?_ | refine Z.ZO.storeR rfl rfl hs Try.sizeOf26 rfl rfl rfl (by first | exact SX.at0 | exact SX.at1 | exact SX.at2 | exact SX.at3 | exact SX.at4 | exact SX.at5 | exact Z.at6 | exact Z.at7 | exact Z.at8 | exact Z.at9 | exact Z.at10 | exact Z.at11 | exact Z.at12) (by first | omega | (simp [ints_length]; done) | (simp [ints_length]; omega)) ?_
        clear hs; intro ws hs
        simp only [Nat.zero_add, Nat.add_zero, Nat.reduceAdd, Int.reduceToNat, Nat.reduceMul, List.set_cons_zero, List.set_cons_succ, List.setIfInBounds_toArray] at hs
        refine Z.lnil ?_
        refine Z.only [] rfl ?_
        -- ret#0
        refine Z.out0n trivial ?_
        exact ⟨_, rfl, by rw [if_neg hc0, if_neg hc0]; exact hs⟩
        )
  · first
      | (exfalso; simp at hc0 <;> omega)
      | (
        (try simp at hc0)
        refine Z.skip ?_
        -- ret#1
        refine Z.out0n trivial ?_
        exact ⟨_, rfl, by rw [if_pos hc0, if_pos hc0]; exact hs⟩
        )

set_option maxRecDepth 100000 in
theorem each8 (g T : Nat) (svb : Value) (l : List Int) (a : Nat) (A : Option Addr) (n c : Nat) (xs : List Int) (w : World) (hs : SX.St w (SX.idsOf (RdL g T svb l a)) w (RdL g T svb l a))
    (hx : Sx w (SX.idsOf (RdL g T svb l a)) A (ints .i64 xs)) (hl : xs.length = n) (hn : n ≤ 1000000) (hll : l.length ≤ 1000000) (ha : a ≤ 8 * l.length) (hb : ∀ x ∈ l, 0 ≤ x ∧ x < 256) :
    Calls Try.prog 64 #[.pointer (some ⟨g, 0, none⟩), .slice A n c, .func (.func 65) #[.pointer (some ⟨g, 0, none⟩)] #[]] w (SX.Ret fun r w' => ∃ so, r = .tuple #[so, .int .i64 (gsE l a (List.replicate n 8))] ∧
      SX.St w (SX.idsOf (RdL g T svb l a)) w' (RdL g T svb l (if gsE l a (List.replicate n 8) = 0 then gsA l a (List.replicate n 8) else a) ++ [SX.Ent.row so 5 1 (if gsE l a (List.replicate n 8) = 0 then n else 0) (ints .u8 (if gsE l a (List.replicate n 8) = 0 then gsV l a (List.replicate n 8) else []))])) := by
  obtain ⟨ds, hds⟩ : ∃ ds, ds = List.replicate n (8 : Int) := ⟨_, rfl⟩
  have hdl : ds.length = n := by rw [hds]; simp
  rw [← hds]
  have hd8 : ∀ k, k < n → ds[k]? = some 8 := fun k hk => by rw [hds, List.getElem?_replicate, if_pos hk]
  clear hds
  generalize hM : SX.idsOf (RdL g T svb l a) = M at *
  have hnil : SX.St w M w (RdL g T svb l a ++ [SX.Ent.row (.slice none 0 0) 5 1 0 []]) := (hs.nil 5 1).sel [1, 2, 0] (by decide)
  clear hs
  have hs := hnil
  clear hnil
  simp only [RdL, List.cons_append, List.nil_append] at hs
  refine Z.enterD Try.func64 rfl Try.ntmps64 rfl rfl ?_
  refine Z.seq ?_
  refine Z.region ?_
  refine Z.le rfl trivial ?_
  refine Z.ZO.box rfl rfl (by rfl) rfl rfl hs ?_
  clear hs; intro g3 w3 hs
  refine Z.le rfl trivial ?_
  refine Z.ZO.alloc rfl rfl (by rfl) Try.zeroValue26 rfl hs ?_
  clear hs; intro g6 w6 hs
  refine Z.le rfl trivial ?_
  refine Z.ZO.alloc rfl rfl (by rfl) Try.zeroValue27 rfl hs ?_
  clear hs; intro g7 w7 hs
  refine Z.lnil ?_
  refine Z.only [1, 2, 3, 6, 7] rfl ?_
  refine Z.nthen ?_
  refine Z.seq ?_
  refine Z.seq ?_
  refine Z.region ?_
  refine Z.l rfl rfl (by rfl) (Z.keepS hs) (by first | exact Z.Yd.load rfl Try.isAgg85 (fun _ => Z.cellB (by first | ((repeat (first | exact List.mem_cons_self | refine List.mem_cons_of_mem _ ?_ | refine List.mem_append_right _ ?_)); done) | fail) rfl) | exact Z.Yd.load rfl Try.isAgg85 (fun _ => Z.cellO (by assumption) (by simp) (by assumption)) | fail "load 1.0") ?_
  refine Z.l rfl rfl (by rfl) (Z.keepS hs) (Z.Yd.ptrNil rfl rfl Try.underlying85) ?_
  refine Z.lnil ?_
  refine Z.only [1, 2, 3, 6, 7, 14] rfl ?_
  refine Z.nthen ?_
  refine Z.cond rfl (fun h => absurd h (by simp)) (fun hc1 => ?_)
  refine Z.skip ?_
  refine Z.nthen ?_
  refine Z.seq ?_
  refine Z.region ?_
  refine Z.l rfl rfl (by rfl) (Z.keepS hs) (by first | exact Z.Yd.load rfl Try.isAgg85 (fun _ => Z.cellB (by first | ((repeat (first | exact List.mem_cons_self | refine List.mem_cons_of_mem _ ?_ | refine List.mem_append_right _ ?_)); done) | fail) rfl) | exact Z.Yd.load rfl Try.isAgg85 (fun _ => Z.cellO (by assumption) (by simp) (by assumption)) | fail "load 3.0") ?_
  refine Z.l rfl rfl (by rfl) (Z.keepS hs) (Z.Yd.nilc rfl rfl) ?_
  refine Z.l rfl rfl (by rfl) (Z.keepS hs) (Z.Yd.fieldA (m := 1) rfl (by kernel_rfl)) ?_
  refine Z.l rfl rfl (by rfl) (Z.keepS hs) (by first | exact Z.Yd.load rfl Try.isAgg3 (fun _ => Z.cellB (by first | ((repeat (first | exact List.mem_cons_self | refine List.mem_cons_of_mem _ ?_ | refine List.mem_append_right _ ?_)); done) | fail) rfl) | exact Z.Yd.load rfl Try.isAgg3 (fun _ => Z.cellO (by assumption) (by simp) (by assumption)) | fail "load 3.3") ?_
  refine Z.le rfl trivial ?_
  refine Z.ZO.alloc rfl rfl (by rfl) Try.zeroValue3 rfl hs ?_
  clear hs; intro g8 w8 hs
  refine Z.le rfl trivial ?_
  first | refine Z.ZO.store rfl rfl hs Try.sizeOf3 rfl rfl rfl (by first | exact SX.at0 | exact SX.at1 | exact SX.at2 | exact SX.at3 | exact SX.at4 | exact SX.at5 | exact Z.at6 | exact Z.at7 | exact Z.at8 | exact Z.at9 | exact Z.at10 | exact Z.at11 | exact Z.at12) (by first | (simp; done) | (simp; omega)) ?_ | refine Z.ZO.storeR rfl rfl hs Try.sizeOf3 rfl rfl rfl (by first | exact SX.at0 | exact SX.at1 | exact SX.at2 | exact SX.at3 | exact SX.at4 | exact SX.at5 | exact Z.at6 | exact Z.at7 | exact Z.at8 | exact Z.at9 | exact Z.at10 | exact Z.at11 | exact Z.at12) (by first | omega | (simp [ints_length]; done) | (simp [ints_length]; omega)) ?_
  clear hs; intro ws hs
  simp only [Nat.zero_add, Nat.add_zero, Nat.reduceAdd, Int.reduceToNat, Nat.reduceMul, List.set_cons_zero, List.set_cons_succ, List.setIfInBounds_toArray] at hs
  refine Z.lnil ?_
  refine Z.only [1, 2, 3, 6, 7, 8] rfl ?_
  refine Z.nthen ?_
  refine Z.seq ?_
  refine Z.region ?_
  refine Z.lb 1 rfl ?_
  refine Z.le rfl trivial ?_
  refine Z.ZO.defer rfl rfl rfl rfl ?_
  refine Z.lnil ?_
  refine Z.only [1, 2, 6, 7] rfl ?_
  replace hs : SX.St w M _ (RdL g T svb l a ++ [SX.Ent.blk g8 3 #[.int .i64 (a : Int)], SX.Ent.blk g7 27 #[.int .i64 0], SX.Ent.blk g6 26 #[.slice none 0 0], SX.Ent.blk g3 85 #[.pointer (some ⟨g, 0, none⟩)], SX.Ent.row (.slice none 0 0) 5 1 0 []]) := hs.sel [4, 5, 0, 1, 2, 3, 6] (by decide)
  refine Z.nthen ?_
  refine Z.seq ?_
  refine Z.seq ?_
  refine Z.region ?_
  refine Z.lb 1 rfl ?_
  refine Z.l rfl rfl (by rfl) (Z.keepS hs) (Z.Yd.lenS rfl Try.underlying118) ?_
  refine Z.lb 1 rfl ?_
  refine Z.lnil ?_
  refine Z.only [2, 6, 7, 20, 21, 22] rfl ?_
  refine Z.nthen ?_
  refine Z.block ?_
  refine Z.loopk (ι := Nat × Value) [2, 6, 7, 20, 21] rfl (fun k => [(22, [], .int .i64 (k.1 : Int))]) (fun k wr => k.1 ≤ n ∧ gsE l a (ds.take k.1) = 0 ∧ SX.St w M wr (RdL g T svb l (gsA l a (ds.take k.1)) ++ [SX.Ent.blk g8 3 #[.int .i64 (a : Int)], SX.Ent.blk g7 27 #[.int .i64 0], SX.Ent.blk g6 26 #[k.2], SX.Ent.blk g3 85 #[.pointer (some ⟨g, 0, none⟩)], SX.Ent.row k.2 5 1 k.1 (ints .u8 (gsV l a (ds.take k.1)))])) (fun k => n - k.1) (0, .slice none 0 0) (by refine ⟨?_, trivial⟩ <;> (first | rfl | (refine Z.lookv rfl ?_; simp; done) | (refine Z.lookv rfl ?_; simp; omega))) ⟨by omega, rfl, hs⟩ ?_
  clear hs
  rintro ⟨k, so⟩ w1 ⟨hkn, hz, hs⟩
  refine Z.only [2, 6, 7, 20, 21, 22] rfl ?_
  (try dsimp only at hs)
  dsimp only at hkn hz
  simp only [RdL, List.cons_append, List.nil_append] at hs
  refine Z.seq ?_
  refine Z.region ?_
  refine Z.lb 1 rfl ?_
  refine Z.lnil ?_
  refine Z.only [2, 6, 7, 20, 21, 22, 23] rfl ?_
  refine Z.nthen ?_
  refine Z.seq ?_
  refine Z.cond rfl (fun hc6 => ?_) (fun hc6 => ?_)
  · first
      | (exfalso; simp at hc6 <;> omega)
      | (
        (try simp at hc6)
        obtain ⟨b, off, rfl, hx⟩ := hx.some (by simp [ints]; omega)
        have hwk : ds[k]? = some 8 := hd8 k (by omega)
        have hga := gsA_le (l := l) (ws := ds.take k) ha
        refine Z.skip ?_
        refine Z.nthen ?_
        refine Z.seq ?_
        refine Z.block ?_
        refine Z.seq ?_
        refine Z.region ?_
        refine Z.l rfl rfl (by rfl) (Z.keepS hs) (Z.Yd.elem rfl rfl Try.underlying118 Try.sizeOf3 (fun hG => ⟨(by first | omega | (have hG' := Z.gh rfl hG; simp at hG'; omega)), (by first | omega | (have hG' := Z.gh rfl hG; simp at hG'; omega))⟩)) ?_
        refine Z.l rfl rfl (by rfl) (Z.keepS hs) (by first | exact Z.Yd.load rfl Try.isAgg3 (fun hG => Z.cellR (by first | ((repeat (first | exact List.mem_cons_self | refine List.mem_cons_of_mem _ ?_ | refine List.mem_append_right _ ?_)); done) | fail) (Z.ints_at (by first | omega | (have hG' := Z.gh rfl hG; simp at hG'; omega)) (by first | omega | (have hG' := Z.gh rfl hG; simp at hG'; omega)))) | exact Z.Yd.load rfl Try.isAgg3 (fun hG => Z.cellXi (by assumption) (by first | omega | (have hG' := Z.gh rfl hG; simp at hG'; omega)) (by first | omega | (have hG' := Z.gh rfl hG; simp at hG'; omega))) | exact Z.Yd.load rfl Try.isAgg3 (fun hG => Z.cellS (by assumption) rfl (by first | omega | (have hG' := Z.gh rfl hG; simp at hG'; omega)) (by first | omega | (have hG' := Z.gh rfl hG; simp at hG'; omega))) | fail "load 7.1") ?_
        refine Z.lb 1 rfl ?_
        refine Z.lnil ?_
        refine Z.only [2, 6, 7, 10, 20, 21, 22] rfl ?_
        refine Z.nthen ?_
        refine Z.seq ?_
        refine Z.region ?_
        refine Z.lb 2 rfl ?_
        refine Z.le rfl trivial ?_
        refine Z.ZO.call rfl rfl (by rfl) rfl rfl Try.call65 rfl (octet_any g T svb l _ _ _ (hs.lend (L1 := RdL _ _ _ _ _)) hll hga hb) ?_
        rintro v8_2 w8_2 ⟨rfl, hzz⟩
        replace hs := hs.regain (L1 := RdL _ _ _ _ _) hzz
        simp only [RdL, List.cons_append, List.nil_append] at hs
        refine Z.lb 5 rfl ?_
        refine Z.lnil ?_
        refine Z.only [2, 6, 7, 11, 12, 20, 21, 22] rfl ?_
        refine Z.nthen ?_
        refine Z.seq ?_
        refine Z.seq ?_
        refine Z.region ?_
        refine Z.lb 2 rfl ?_
        refine Z.lnil ?_
        refine Z.only [2, 6, 7, 11, 12, 20, 21, 22, 33] rfl ?_
        refine Z.nthen ?_
        refine Z.cond rfl (fun hc9 => ?_) (fun hc9 => ?_)
        · first
            | (exfalso; simp at hc9 <;> omega)
            | (
              (try simp at hc9)
              refine Z.seq ?_
              refine Z.region ?_
              refine Z.lb 1 rfl ?_
              refine Z.le rfl trivial ?_
              first | refine Z.ZO.store rfl rfl hs Try.sizeOf26 rfl rfl rfl (by first | exact SX.at0 | exact SX.at1 | exact SX.at2 | exact SX.at3 | exact SX.at4 | exact SX.at5 | exact Z.at6 | exact Z.at7 | exact Z.at8 | exact Z.at9 | exact Z.at10 | exact Z.at11 | exact Z.at12) (by first | (simp; done) | (simp; omega)) ?_ | refine Z.ZO.storeR rfl rfl hs Try.sizeOf26 rfl rfl rfl (by first | exact SX.at0 | exact SX.at1 | exact SX.at2 | exact SX.at3 | exact SX.at4 | exact SX.at5 | exact Z.at6 | exact Z.at7 | exact Z.at8 | exact Z.at9 | exact Z.at10 | exact Z.at11 | exact Z.at12) (by first | omega | (simp [ints_length]; done) | (simp [ints_length]; omega)) ?_
              clear hs; intro ws hs
              simp only [Nat.zero_add, Nat.add_zero, Nat.reduceAdd, Int.reduceToNat, Nat.reduceMul, List.set_cons_zero, List.set_cons_succ, List.setIfInBounds_toArray] at hs
              refine Z.le rfl trivial ?_
              first | refine Z.ZO.store rfl rfl hs Try.sizeOf27 rfl rfl rfl (by first | exact SX.at0 | exact SX.at1 | exact SX.at2 | exact SX.at3 | exact SX.at4 | exact SX.at5 | exact Z.at6 | exact Z.at7 | exact Z.at8 | exact Z.at9 | exact Z.at10 | exact Z.at11 | exact Z.at12) (by first | (simp; done) | (simp; omega)) ?_ | refine Z.ZO.storeR rfl rfl hs Try.sizeOf27 rfl rfl rfl (by first | exact SX.at0 | exact SX.at1 | exact SX.at2 | exact SX.at3 | exact SX.at4 | exact SX.at5 | exact Z.at6 | exact Z.at7 | exact Z.at8 | exact Z.at9 | exact Z.at10 | exact Z.at11 | exact Z.at12) (by first | omega | (simp [ints_length]; done) | (simp [ints_length]; omega)) ?_
              clear hs; intro ws hs
              simp only [Nat.zero_add, Nat.add_zero, Nat.reduceAdd, Int.reduceToNat, Nat.reduceMul, List.set_cons_zero, List.set_cons_succ, List.setIfInBounds_toArray] at hs
              refine Z.lnil ?_
              refine Z.only [6, 7] rfl ?_
              refine Z.nthen ?_
              refine Z.ret ?_
              repeat (first | refine Z.rthen ?_ | refine Z.rblock ?_ | refine Z.rscope ?_)
              -- ret#0
              refine Z.outD1 Try.call67 (back8 g7 g8 g3 g6 g T svb _ _ a _ _ (SX.St.lend (L1 := dfL _ _ _ _ _ _ _ _ _ _ _ _) (L2 := [_, _]) (hs.sel [3, 2, 5, 4, 0, 1, 6] (by decide)))) ?_
              rintro vD wD hzz
              replace hs := SX.St.regain (L1 := dfL _ _ _ _ _ _ _ _ _ _ _ _) (L2 := [_, _]) (hs.sel [3, 2, 5, 4, 0, 1, 6] (by decide)) hzz
              simp only [dfL, List.cons_append, List.nil_append] at hs
              refine ⟨[_, _], (by exact ⟨⟨_, rfl, Z.rvc hs Try.isAgg26 (by first | ((repeat (first | exact List.mem_cons_self | refine List.mem_cons_of_mem _ ?_ | refine List.mem_append_right _ ?_)); done) | fail) rfl⟩, ⟨_, rfl, Z.rvc hs Try.isAgg27 (by first | ((repeat (first | exact List.mem_cons_self | refine List.mem_cons_of_mem _ ?_ | refine List.mem_append_right _ ?_)); done) | fail) rfl⟩, trivial⟩), ?_⟩
              have e := gsE_at hwk hz hc9
              rw [if_neg hc9, if_neg hc9] at hs
              refine ⟨_, rfl, _, by rw [if_neg hc9, e]; rfl, ?_⟩
              rw [if_neg (by rw [e]; exact hc9), if_neg (by rw [e]; exact hc9), if_neg (by rw [e]; exact hc9)]
              exact (hs.nil 5 1).sel [5, 6, 0] (by decide)
              )
        · first
            | (exfalso; simp at hc9 <;> omega)
            | (
              (try simp at hc9)
              refine Z.skip ?_
              refine Z.nthen ?_
              refine Z.region ?_
              refine Z.l rfl rfl (by rfl) (Z.keepS hs) (by first | exact Z.Yd.load rfl Try.isAgg26 (fun _ => Z.cellB (by first | ((repeat (first | exact List.mem_cons_self | refine List.mem_cons_of_mem _ ?_ | refine List.mem_append_right _ ?_)); done) | fail) rfl) | exact Z.Yd.load rfl Try.isAgg26 (fun _ => Z.cellO (by assumption) (by simp) (by assumption)) | fail "load 11.0") ?_
              refine Z.lb 1 rfl ?_
              refine Z.le rfl trivial ?_
              refine Z.ZO.lit rfl rfl (by rfl) rfl (by intro W; go_simp; exact rfl) hs ?_
              clear hs; intro g37 w37 hs
              refine Z.le rfl trivial ?_
              refine Z.ZO.append (i0 := Try.t5) (size := 1) (bytes := 1) rfl rfl (by rfl) hs Try.underlying26 (by kernel_rfl) rfl rfl rfl rfl (by decide) rfl rfl (by first | exact SX.at0 | exact SX.at1 | exact SX.at2 | exact SX.at3 | exact SX.at4 | exact SX.at5 | exact Z.at6 | exact Z.at7 | exact Z.at8 | exact Z.at9 | exact Z.at10 | exact Z.at11 | exact Z.at12) (by first | exact SX.at0 | exact SX.at1 | exact SX.at2 | exact SX.at3 | exact SX.at4 | exact SX.at5 | exact Z.at6 | exact Z.at7 | exact Z.at8 | exact Z.at9 | exact Z.at10 | exact Z.at11 | exact Z.at12) (by first | rfl | simp) (by simp [Value.oneCell']) (by decide) (by unfold maxLen; omega) (by omega) ?_
              clear hs; intro g38 cap38 w38 hs
              simp only [List.set_cons_zero, List.set_cons_succ, List.eraseIdx_cons_zero, List.eraseIdx_cons_succ] at hs
              refine Z.le rfl trivial ?_
              first | refine Z.ZO.store rfl rfl hs Try.sizeOf26 rfl rfl rfl (by first | exact SX.at0 | exact SX.at1 | exact SX.at2 | exact SX.at3 | exact SX.at4 | exact SX.at5 | exact Z.at6 | exact Z.at7 | exact Z.at8 | exact Z.at9 | exact Z.at10 | exact Z.at11 | exact Z.at12) (by first | (simp; done) | (simp; omega)) ?_ | refine Z.ZO.storeR rfl rfl hs Try.sizeOf26 rfl rfl rfl (by first | exact SX.at0 | exact SX.at1 | exact SX.at2 | exact SX.at3 | exact SX.at4 | exact SX.at5 | exact Z.at6 | exact Z.at7 | exact Z.at8 | exact Z.at9 | exact Z.at10 | exact Z.at11 | exact Z.at12) (by first | omega | (simp [ints_length]; done) | (simp [ints_length]; omega)) ?_
              clear hs; intro ws hs
              simp only [Nat.zero_add, Nat.add_zero, Nat.reduceAdd, Int.reduceToNat, Nat.reduceMul, List.set_cons_zero, List.set_cons_succ, List.setIfInBounds_toArray] at hs
              refine Z.lnil ?_
              refine Z.only [2, 6, 7, 20, 21, 22] rfl ?_
              refine Z.nblock ?_
              refine Z.nthen ?_
              refine Z.region ?_
              refine Z.l rfl rfl (by rfl) (Z.keepS hs) (Z.Yd.add rfl rfl (fun hG => Z.wi64 (by first | omega | (have hG' := Z.gh rfl hG; simp at hG'; omega)))) ?_
              refine Z.lb 1 rfl ?_
              refine Z.lnil ?_
              refine Z.only [2, 6, 7, 20, 21, 22] rfl ?_
              refine Z.nthen ?_
              obtain ⟨e1, e2, e3⟩ := gs_snoc hwk hz hc9
              have e4 : ints .u8 (gsV l a (ds.take k)) ++ [.int .u8 (getV l (gsA l a (ds.take k)) 8)] = ints .u8 (gsV l a (ds.take (k + 1))) := by rw [e3]; simp [ints]
              rw [e4, ← e2] at hs
              exact Z.again (k + 1, _) (by refine ⟨?_, ?_, ?_, ?_, ?_, ?_, trivial⟩ <;> (first | rfl | (refine Z.lookv rfl ?_; simp; done) | (refine Z.lookv rfl ?_; simp; omega))) ⟨by simp only; omega, e1, hs⟩ (by simp only; omega)
              )
        )
  · first
      | (exfalso; simp at hc6 <;> omega)
      | (
        (try simp at hc6)
        refine Z.exit ?_
        refine Z.xthen ?_
        refine Z.xthen ?_
        refine Z.xblock ?_
        refine Z.nthen ?_
        refine Z.seq ?_
        refine Z.region ?_
        obtain ⟨Ao, co, rfl, -, -, -⟩ := SX.row_slv hs (j := 6) rfl
        refine Z.l rfl rfl (by rfl) (Z.keepS hs) (by first | exact Z.Yd.load rfl Try.isAgg26 (fun _ => Z.cellB (by first | ((repeat (first | exact List.mem_cons_self | refine List.mem_cons_of_mem _ ?_ | refine List.mem_append_right _ ?_)); done) | fail) rfl) | exact Z.Yd.load rfl Try.isAgg26 (fun _ => Z.cellO (by assumption) (by simp) (by assumption)) | fail "load 13.0") ?_
        refine Z.le rfl trivial ?_
        first | refine Z.ZO.store rfl rfl hs Try.sizeOf26 rfl rfl rfl (by first | exact SX.at0 | exact SX.at1 | exact SX.at2 | exact SX.at3 | exact SX.at4 | exact SX.at5 | exact Z.at6 | exact Z.at7 | exact Z.at8 | exact Z.at9 | exact Z.at10 | exact Z.at11 | exact Z.at12) (by first | (simp; done) | (simp; omega)) ?_ | refine Z.ZO.storeR rfl rfl hs Try.sizeOf26 rfl rfl rfl (by first | exact SX.at0 | exact SX.at1 | exact SX.at2 | exact SX.at3 | exact SX.at4 | exact SX.at5 | exact Z.at6 | exact Z.at7 | exact Z.at8 | exact Z.at9 | exact Z.at10 | exact Z.at11 | exact Z.at12) (by first | omega | (simp [ints_length]; done) | (simp [ints_length]; omega)) ?_
        clear hs; intro ws hs
        simp only [Nat.zero_add, Nat.add_zero, Nat.reduceAdd, Int.reduceToNat, Nat.reduceMul, List.set_cons_zero, List.set_cons_succ, List.setIfInBounds_toArray] at hs
        refine Z.le rfl trivial ?_
        first | refine Z.ZO.store rfl rfl hs Try.sizeOf27 rfl rfl rfl (by first | exact SX.at0 | exact SX.at1 | exact SX.at2 | exact SX.at3 | exact SX.at4 | exact SX.at5 | exact Z.at6 | exact Z.at7 | exact Z.at8 | exact Z.at9 | exact Z.at10 | exact Z.at11 | exact Z.at12) (by first | (simp; done) | (simp; omega)) ?_ | refine Z.ZO.storeR rfl rfl hs Try.sizeOf27 rfl rfl rfl (by first | exact SX.at0 | exact SX.at1 | exact SX.at2 | exact SX.at3 | exact SX.at4 | exact SX.at5 | exact Z.at6 | exact Z.at7 | exact Z.at8 | exact Z.at9 | exact Z.at10 | exact Z.at11 | exact Z.at12) (by first | omega | (simp [ints_length]; done) | (simp [ints_length]; omega)) ?_
        clear hs; intro ws hs
        simp only [Nat.zero_add, Nat.add_zero, Nat.reduceAdd, Int.reduceToNat, Nat.reduceMul, List.set_cons_zero, List.set_cons_succ, List.setIfInBounds_toArray] at hs
        refine Z.lnil ?_
        refine Z.only [6, 7] rfl ?_
        refine Z.nthen ?_
        refine Z.ret ?_
        -- ret#1
        refine Z.outD1 Try.call67 (back8 g7 g8 g3 g6 g T svb _ _ a _ _ (SX.St.lend (L1 := dfL _ _ _ _ _ _ _ _ _ _ _ _) (L2 := [_, _]) (hs.sel [3, 2, 5, 4, 0, 1, 6] (by decide)))) ?_
        rintro vD wD hzz
        replace hs := SX.St.regain (L1 := dfL _ _ _ _ _ _ _ _ _ _ _ _) (L2 := [_, _]) (hs.sel [3, 2, 5, 4, 0, 1, 6] (by decide)) hzz
        simp only [dfL, List.cons_append, List.nil_append] at hs
        refine ⟨[_, _], (by exact ⟨⟨_, rfl, Z.rvc hs Try.isAgg26 (by first | ((repeat (first | exact List.mem_cons_self | refine List.mem_cons_of_mem _ ?_ | refine List.mem_append_right _ ?_)); done) | fail) rfl⟩, ⟨_, rfl, Z.rvc hs Try.isAgg27 (by first | ((repeat (first | exact List.mem_cons_self | refine List.mem_cons_of_mem _ ?_ | refine List.mem_append_right _ ?_)); done) | fail) rfl⟩, trivial⟩), ?_⟩
        obtain rfl : k = n := by omega
        rw [List.take_of_length_le (by omega)] at hz hs
        simp only [if_true] at hs ⊢
        refine ⟨_, rfl, _, by rw [hz]; rfl, ?_⟩
        rw [if_pos hz, if_pos hz, if_pos hz]
        exact hs.sel [4, 5, 6] (by decide)
        )
end Go.Proofs.Ytogjkgoiofngaaa

/- The reader: GetAll, GetBytes. -/
namespace Go.Proofs.Ytogjkgoiofngaaa
open Go.RowKit
set_option linter.unusedSimpArgs false
set_option linter.unusedVariables false

theorem gs8 {l : List Int} : ∀ (n : Nat) {a : Nat}, a + 8 * n ≤ 8 * l.length → gsE l a (List.replicate n 8) = 0 ∧ gsA l a (List.replicate n 8) = a + 8 * n
  | 0, a, _ => ⟨rfl, rfl⟩
  | n + 1, a, h => by
    have h1 : getE l a 8 = 0 := getE_ok (l := l) (a := a) (n := 8) (by omega) (by decide)
    have h2 : getA l a 8 = a + 8 := by unfold getA; rw [if_pos h1]; rfl
    obtain ⟨h3, h4⟩ := gs8 (l := l) n (a := a + 8) (by omega)
    refine ⟨?_, ?_⟩
    · simp only [List.replicate_succ, gsE]
      rw [if_pos h1, h2, h3]
    · have e : gsA l a (List.replicate (n + 1) 8) = gsA l (getA l a 8) (List.replicate n 8) := rfl
      rw [e, h2, h4]
      omega
def gbE (l : List Int) (a : Nat) (n : Int) : Int := if n < 0 then 2 else if ((8 * l.length : Int) - a) / 8 < n then 5 else 0
def gbV (l : List Int) (a : Nat) (n : Int) : List Int := if gbE l a n = 0 then gsV l a (List.replicate n.toNat 8) else []
def gbA (l : List Int) (a : Nat) (n : Int) : Nat := if gbE l a n = 0 then a + 8 * n.toNat else a

set_option maxRecDepth 100000 in
theorem rgetbytes_any (g T : Nat) (svb : Value) (l : List Int) (a : Nat) (n : Int) (w : World) (hs : SX.St w (SX.idsOf (RdL g T svb l a)) w (RdL g T svb l a))
    (hll : l.length ≤ 1000000) (ha : a ≤ 8 * l.length) (hb : ∀ x ∈ l, 0 ≤ x ∧ x < 256) :
    Calls Try.prog 59 #[.pointer (some ⟨g, 0, none⟩), .int .i64 n] w (SX.Ret fun r w' => ∃ so, r = .tuple #[so, .int .i64 (gbE l a n)] ∧
      SX.St w (SX.idsOf (RdL g T svb l a)) w' (RdL g T svb l (gbA l a n) ++ [SX.Ent.row so 5 1 (gbV l a n).length (ints .u8 (gbV l a n))])) := by
  generalize hM : SX.idsOf (RdL g T svb l a) = M at *
  refine Z.enter Try.func59 rfl Try.ntmps59 rfl rfl ?_
  refine Z.seq ?_
  refine Z.region ?_
  refine Z.lb 2 rfl ?_
  refine Z.lnil ?_
  refine Z.only [0, 1] rfl ?_
  refine Z.nthen ?_
  refine Z.seq ?_
  refine Z.block ?_
  refine Z.seq ?_
  refine Z.region ?_
  refine Z.lb 1 rfl ?_
  refine Z.l rfl rfl (by rfl) (Z.keepS hs) (Z.Yd.ptrNil rfl rfl Try.underlying85) ?_
  refine Z.lb 1 rfl ?_
  refine Z.lnil ?_
  refine Z.only [0, 1, 6] rfl ?_
  refine Z.nthen ?_
  refine Z.cond rfl (fun h => absurd h (by simp)) (fun hc1 => ?_)
  refine Z.seq ?_
  refine Z.region ?_
  refine Z.lb 3 rfl ?_
  refine Z.lnil ?_
  refine Z.only [0, 1, 9] rfl ?_
  refine Z.nthen ?_
  refine Z.cond rfl (fun hc3 => ?_) (fun hc3 => ?_)
  · first
      | (exfalso; simp at hc3 <;> omega)
      | (
        (try simp at hc3)
        refine Z.seq ?_
        refine Z.region ?_
        refine Z.lb 2 rfl ?_
        refine Z.lnil ?_
        refine Z.only [4, 5] rfl ?_
        refine Z.nthen ?_
        refine Z.ret ?_
        repeat (first | refine Z.rthen ?_ | refine Z.rblock ?_ | refine Z.rscope ?_)
        -- ret#0
        refine Z.out2 (by exact ⟨rfl, rfl, trivial⟩) ?_
        have e : gbE l a n = 2 := by unfold gbE; rw [if_pos (by omega)]
        refine ⟨_, rfl, _, by rw [e], ?_⟩
        unfold gbA gbV
        rw [e]
        exact (hs.nil 5 1).sel [1, 2, 0] (by decide)
        )
  · first
      | (exfalso; simp at hc3 <;> omega)
      | (
        (try simp at hc3)
        refine Z.seq ?_
        refine Z.region ?_
        refine Z.lb 2 rfl ?_
        refine Z.le rfl trivial ?_
        refine Z.ZO.call rfl rfl (by rfl) rfl rfl Try.call57 rfl (rleft_any g T svb l a _ hs.all hll ha) ?_
        rintro v5_2 w5_2 ⟨rfl, hz⟩
        replace hs := hs.regainAll hz
        refine Z.l rfl rfl (by rfl) (Z.keepS hs) (Z.Yd.quo rfl rfl (by intro hG; first | decide | omega) (by intro hG; first | exact Z.qi64 ⟨by omega, by omega⟩ (by omega) | exact rfl)) ?_
        refine Z.lb 2 rfl ?_
        refine Z.lnil ?_
        refine Z.only [0, 1, 12] rfl ?_
        refine Z.nthen ?_
        refine Z.cond rfl (fun hc5 => ?_) (fun hc5 => ?_)
        · first
            | (exfalso; simp at hc5 <;> omega)
            | (
              (try simp at hc5)
              refine Z.seq ?_
              refine Z.region ?_
              refine Z.lb 2 rfl ?_
              refine Z.lnil ?_
              refine Z.only [4, 5] rfl ?_
              refine Z.nthen ?_
              refine Z.ret ?_
              repeat (first | refine Z.rthen ?_ | refine Z.rblock ?_ | refine Z.rscope ?_)
              -- ret#1
              refine Z.out2 (by exact ⟨rfl, rfl, trivial⟩) ?_
              have e : gbE l a n = 5 := by unfold gbE; rw [if_neg (by omega), if_pos (by omega)]
              refine ⟨_, rfl, _, by rw [e], ?_⟩
              unfold gbA gbV
              rw [e]
              exact (hs.nil 5 1).sel [1, 2, 0] (by decide)
              )
        · first
            | (exfalso; simp at hc5 <;> omega)
            | (
              (try simp at hc5)
              refine Z.skip ?_
              refine Z.nblock ?_
              refine Z.nthen ?_
              refine Z.seq ?_
              refine Z.region ?_
              have e : gbE l a n = 0 := by unfold gbE; rw [if_neg (by omega), if_neg (by omega)]
              obtain ⟨m, rfl⟩ := Int.eq_ofNat_of_zero_le (show 0 ≤ n by omega)
              have hm : a + 8 * m ≤ 8 * l.length := by omega
              obtain ⟨e1, e2⟩ := gs8 (l := l) m hm
              refine Z.l rfl rfl (by rfl) (Z.keepS hs) (Z.Yd.pure rfl) ?_
              refine Z.lb 1 rfl ?_
              refine Z.le rfl trivial ?_
              refine Z.ZO.make1 (m := m) (i0 := Try.t3) (bytes := 8) rfl rfl (by rfl) hs Try.underlying118 (by kernel_rfl) rfl rfl rfl rfl rfl rfl (by omega) (by unfold maxLen; omega) ?_
              clear hs; intro g20 w20 hs
              refine Z.lb 2 rfl ?_
              have e0 : List.replicate m (Value.int .i64 0) = ints .i64 (List.replicate m 0) := by simp [ints]
              rw [e0] at hs
              replace hs := hs.rot (L1 := [_])
              refine Z.le rfl trivial ?_
              refine Z.ZO.call rfl rfl (by rfl) rfl rfl Try.call64 rfl (each8 g T svb l a _ m m (List.replicate m 0) _ (hs.lend (L1 := RdL _ _ _ _ _)) (Z.row_lentv (L1 := RdL _ _ _ _ _) hs (j := 0) rfl) (by simp) (by omega) hll ha hb) ?_
              rintro v7_5 w7_5 ⟨so, rfl, hz⟩
              replace hs := hs.regain (L1 := RdL _ _ _ _ _) hz
              refine Z.lb 4 rfl ?_
              refine Z.lnil ?_
              refine Z.only [4, 5] rfl ?_
              refine Z.nthen ?_
              refine Z.ret ?_
              -- ret#2
              refine Z.out2 (by exact ⟨rfl, rfl, trivial⟩) ?_
              refine ⟨_, rfl, so, by rw [e, e1], ?_⟩
              rw [e1, if_pos rfl, if_pos rfl, if_pos rfl, e2] at hs
              unfold gbA gbV
              rw [e, if_pos rfl, if_pos rfl, gsV_length, Int.toNat_natCast, List.length_replicate]
              exact hs.sel [0, 1, 2] (by decide)
              )
        )
end Go.Proofs.Ytogjkgoiofngaaa

/- The law's valid. -/
namespace Go.Proofs.Ytogjkgoiofngaaa
open Go.RowKit
set_option linter.unusedSimpArgs false
set_option linter.unusedVariables false

end Go.Proofs.Ytogjkgoiofngaaa

/- FieldCuts. -/
namespace Go.Proofs.Ytogjkgoiofngaaa
open Go.RowKit
set_option linter.unusedSimpArgs false
set_option linter.unusedVariables false

end Go.Proofs.Ytogjkgoiofngaaa

/- What is written is read back: plain facts. -/
namespace Go.Proofs.Ytogjkgoiofngaaa
open Go.RowKit
set_option linter.unusedSimpArgs false
set_option linter.unusedVariables false

theorem val_fld (v : Nat) : ∀ w, val (fld v w) = v % 2 ^ w := by
  have h : ∀ (bs cs : List Bool), val (bs ++ cs) = val bs * 2 ^ cs.length + val cs := by
    have key : ∀ (cs : List Bool) (a : Nat), cs.foldl (fun v b => 2 * v + b.toNat) a = a * 2 ^ cs.length + cs.foldl (fun v b => 2 * v + b.toNat) 0 := by
      intro cs
      induction cs with
      | nil => intro a; simp
      | cons c cs ih =>
        intro a
        simp only [List.foldl_cons, List.length_cons]
        rw [ih (2 * a + c.toNat), ih (2 * 0 + c.toNat), Nat.pow_succ, Nat.add_mul, Nat.mul_zero, Nat.zero_add, ← Nat.mul_assoc, Nat.mul_comm (a * 2 ^ cs.length) 2, ← Nat.mul_assoc, Nat.add_assoc]
    intro bs cs
    unfold val
    rw [List.foldl_append]
    exact key cs _
  intro w
  induction w with
  | zero => simp [fld, val, Nat.mod_one]
  | succ w ih =>
    have e : fld v (w + 1) = [v.testBit w] ++ fld v w := rfl
    rw [e, h, ih, fld_length]
    have e2 : val [v.testBit w] = (v.testBit w).toNat := by simp [val]
    rw [e2, Nat.toNat_testBit, Nat.pow_succ, Nat.mod_mul]
    rw [Nat.mul_comm (2 ^ w)]
    omega
end Go.Proofs.Ytogjkgoiofngaaa

/- FieldHolds. -/
namespace Go.Proofs.Ytogjkgoiofngaaa
open Go.RowKit
set_option linter.unusedSimpArgs false
set_option linter.unusedVariables false

end Go.Proofs.Ytogjkgoiofngaaa

/- A nil writer, a nil reader. -/
namespace Go.Proofs.Ytogjkgoiofngaaa
open Go.RowKit
set_option linter.unusedSimpArgs false
set_option linter.unusedVariables false

end Go.Proofs.Ytogjkgoiofngaaa

/- FieldNone. -/
namespace Go.Proofs.Ytogjkgoiofngaaa
open Go.RowKit
set_option linter.unusedSimpArgs false
set_option linter.unusedVariables false

structure AskV where
  what : Int
  n : Int
  lA : Option Addr
  lc : Nat
  ll : List Int
structure GoodK (W : World) (x : AskV) : Prop where
  what : -9223372036854775808 ≤ x.what ∧ x.what ≤ 9223372036854775807
  n : -9223372036854775808 ≤ x.n ∧ x.n ≤ 9223372036854775807
  ls : Sl W x.lA (ints .i64 x.ll)
  l63 : x.ll.length ≤ maxLen

end Go.Proofs.Ytogjkgoiofngaaa

/- The document's reader. -/
namespace Go.Proofs.Ytogjkgoiofngaaa
open Go.RowKit
set_option linter.unusedSimpArgs false
set_option linter.unusedVariables false

end Go.Proofs.Ytogjkgoiofngaaa

/- The document's reader: Get, GetBytes, Align, End. -/
namespace Go.Proofs.Ytogjkgoiofngaaa
open Go.RowKit
set_option linter.unusedSimpArgs false
set_option linter.unusedVariables false

end Go.Proofs.Ytogjkgoiofngaaa

/- The document's reader: Align, GetAll. -/
namespace Go.Proofs.Ytogjkgoiofngaaa
open Go.RowKit
set_option linter.unusedSimpArgs false
set_option linter.unusedVariables false

end Go.Proofs.Ytogjkgoiofngaaa

/- The law's ask. -/
namespace Go.Proofs.Ytogjkgoiofngaaa
open Go.RowKit
set_option linter.unusedSimpArgs false
set_option linter.unusedVariables false

end Go.Proofs.Ytogjkgoiofngaaa

/- FieldReads. -/
namespace Go.Proofs.Ytogjkgoiofngaaa
open Go.RowKit
set_option linter.unusedSimpArgs false
set_option linter.unusedVariables false

end Go.Proofs.Ytogjkgoiofngaaa

/- MAC PDUs: the control elements, valid lists, the need; plainly and in the program. -/
namespace Go.Proofs.Ytogjkgoiofngaaa
open Go.RowKit
set_option linter.unusedSimpArgs false
set_option linter.unusedVariables false
--newlaws

/-- a part -/
structure MpV where
  lc : Int
  B : Option Addr
  c : Nat
  l : List Int
def MpV.cells (q : MpV) : List Value := [.int .i64 q.lc, .slice q.B q.l.length q.c]
def MpV.plain (q : MpV) : Int × List Int := (q.lc, q.l)
theorem mp_len (q : MpV) : q.cells.length = 2 := rfl
theorem mp_one (q : MpV) : ∀ u ∈ q.cells, u.oneCell' = true := by simp [MpV.cells, Value.oneCell']
theorem fl_len {α β : Type} {enc : α → List β} {s : Nat} (hs : ∀ x, (enc x).length = s) (l : List α) : (l.flatMap enc).length = l.length * s := Z.flat_length hs
/-- the number of bytes of a control element, or 0 -/
def ctlN (x : Int) : Int := if x = 26 ∨ x = 29 then 1 else if x = 27 then 2 else if x = 28 then 6 else if x = 30 then 3 else 0
theorem ctlN_bd (x : Int) : 0 ≤ ctlN x ∧ ctlN x ≤ 6 := by unfold ctlN; split <;> (try split) <;> (try split) <;> (try split) <;> omega
def sduB (x : Int) : Prop := 1 ≤ x ∧ x ≤ 10
instance (x : Int) : Decidable (sduB x) := by unfold sduB; infer_instance
theorem sdu_ctl {x : Int} (h : sduB x) : ctlN x = 0 := by unfold sduB at h; unfold ctlN; rw [if_neg (by omega), if_neg (by omega), if_neg (by omega), if_neg (by omega)]
def ctlL : List (Int × Value) := [(26, .int .i64 1), (27, .int .i64 2), (28, .int .i64 6), (29, .int .i64 1), (30, .int .i64 3)]
theorem ctl_mlk (x : Int) : (mlk ctlL x).getD (.int .i64 0) = .int .i64 (ctlN x) ∧ (mlk ctlL x).isSome = decide (ctlN x ≠ 0) := by
  unfold mlk ctlL ctlN
  by_cases h1 : x = 26
  · subst h1; exact ⟨rfl, rfl⟩
  · by_cases h2 : x = 27
    · subst h2; exact ⟨rfl, rfl⟩
    · by_cases h3 : x = 28
      · subst h3; exact ⟨rfl, rfl⟩
      · by_cases h4 : x = 29
        · subst h4; exact ⟨rfl, rfl⟩
        · by_cases h5 : x = 30
          · subst h5; exact ⟨rfl, rfl⟩
          · have e1 : ((26 : Int) == x) = false := by simp; omega
            have e2 : ((27 : Int) == x) = false := by simp; omega
            have e3 : ((28 : Int) == x) = false := by simp; omega
            have e4 : ((29 : Int) == x) = false := by simp; omega
            have e5 : ((30 : Int) == x) = false := by simp; omega
            simp [List.find?_cons, e1, e2, e3, e4, e5, h1, h2, h3, h4, h5]
theorem mc_controls (w : World) : Calls Try.prog 43 #[] w (SX.Ret fun v w' => ∃ g, v = .map (some g) ∧ SX.St w [] w' [SX.Ent.mp g .i64 ctlL]) := by
  have hs := SX.St.start w
  refine Z.enter Try.func43 rfl Try.ntmps43 rfl rfl ?_
  refine Z.seq ?_
  refine Z.region ?_
  refine Z.lb 1 rfl ?_
  refine Z.lnil ?_
  refine Z.only [] rfl ?_
  refine Z.nthen ?_
  refine Z.seq ?_
  refine Z.region ?_
  refine Z.le rfl trivial ?_
  refine Z.ZO.mkMap rfl rfl (by rfl) hs .i64 ?_
  clear hs; intro g1 w1 hs
  refine Z.le rfl trivial ?_
  refine Z.ZO.insert rfl rfl hs rfl rfl rfl Try.underlying83 Try.underlying3 (by first | exact SX.at0 | exact SX.at1 | exact SX.at2 | exact SX.at3 | exact SX.at4 | exact SX.at5 | exact Z.at6 | exact Z.at7 | exact Z.at8 | exact Z.at9 | exact Z.at10 | exact Z.at11 | exact Z.at12) (by rfl) ?_
  clear hs; intro ws hs
  simp only [List.set_cons_zero, List.set_cons_succ, List.cons_append, List.nil_append] at hs
  refine Z.le rfl trivial ?_
  refine Z.ZO.insert rfl rfl hs rfl rfl rfl Try.underlying83 Try.underlying3 (by first | exact SX.at0 | exact SX.at1 | exact SX.at2 | exact SX.at3 | exact SX.at4 | exact SX.at5 | exact Z.at6 | exact Z.at7 | exact Z.at8 | exact Z.at9 | exact Z.at10 | exact Z.at11 | exact Z.at12) (by rfl) ?_
  clear hs; intro ws hs
  simp only [List.set_cons_zero, List.set_cons_succ, List.cons_append, List.nil_append] at hs
  refine Z.le rfl trivial ?_
  refine Z.ZO.insert rfl rfl hs rfl rfl rfl Try.underlying83 Try.underlying3 (by first | exact SX.at0 | exact SX.at1 | exact SX.at2 | exact SX.at3 | exact SX.at4 | exact SX.at5 | exact Z.at6 | exact Z.at7 | exact Z.at8 | exact Z.at9 | exact Z.at10 | exact Z.at11 | exact Z.at12) (by rfl) ?_
  clear hs; intro ws hs
  simp only [List.set_cons_zero, List.set_cons_succ, List.cons_append, List.nil_append] at hs
  refine Z.le rfl trivial ?_
  refine Z.ZO.insert rfl rfl hs rfl rfl rfl Try.underlying83 Try.underlying3 (by first | exact SX.at0 | exact SX.at1 | exact SX.at2 | exact SX.at3 | exact SX.at4 | exact SX.at5 | exact Z.at6 | exact Z.at7 | exact Z.at8 | exact Z.at9 | exact Z.at10 | exact Z.at11 | exact Z.at12) (by rfl) ?_
  clear hs; intro ws hs
  simp only [List.set_cons_zero, List.set_cons_succ, List.cons_append, List.nil_append] at hs
  refine Z.le rfl trivial ?_
  refine Z.ZO.insert rfl rfl hs rfl rfl rfl Try.underlying83 Try.underlying3 (by first | exact SX.at0 | exact SX.at1 | exact SX.at2 | exact SX.at3 | exact SX.at4 | exact SX.at5 | exact Z.at6 | exact Z.at7 | exact Z.at8 | exact Z.at9 | exact Z.at10 | exact Z.at11 | exact Z.at12) (by rfl) ?_
  clear hs; intro ws hs
  simp only [List.set_cons_zero, List.set_cons_succ, List.cons_append, List.nil_append] at hs
  refine Z.lb 2 rfl ?_
  refine Z.lnil ?_
  refine Z.only [0] rfl ?_
  refine Z.nthen ?_
  refine Z.ret ?_
  -- ret#0
  refine Z.out1 (by exact ⟨rfl, trivial⟩) ?_
  exact ⟨_, rfl, _, rfl, hs⟩
theorem mc_Control (x : Int) (w : World) : Calls Try.prog 21 #[.int .i64 x] w (SX.Ret fun v w' => v = .tuple #[.int .i64 (ctlN x), .bool (decide (ctlN x ≠ 0))] ∧ SX.St w [] w' []) := by
  have hs := SX.St.start w
  obtain ⟨e1, e2⟩ := ctl_mlk x
  refine Z.enter Try.func21 rfl Try.ntmps21 rfl rfl ?_
  refine Z.seq ?_
  refine Z.region ?_
  refine Z.lb 2 rfl ?_
  refine Z.lnil ?_
  refine Z.only [0] rfl ?_
  refine Z.nthen ?_
  refine Z.seq ?_
  refine Z.region ?_
  refine Z.le rfl trivial ?_
  refine Z.ZO.call rfl rfl (by rfl) rfl rfl Try.call43 rfl (mc_controls _) ?_
  rintro v1_0 w1_0 ⟨g, rfl, hy⟩
  replace hs := hs.call hy
  clear hy
  try simp only [List.cons_append, List.nil_append, List.append_nil] at hs
  refine Z.lb 1 rfl ?_
  refine Z.l rfl rfl (by rfl) (Z.keepS hs) (Z.Yd.lookupT rfl rfl Try.underlying83 Try.underlying3 Try.zeroValue3 (by first | ((repeat (first | exact List.mem_cons_self | refine List.mem_cons_of_mem _ ?_ | refine List.mem_append_right _ ?_)); done) | fail)) ?_
  rw [e1, e2]
  refine Z.l rfl rfl (by rfl) (Z.keepS hs) (Z.Yd.pure rfl) ?_
  refine Z.lb 4 rfl ?_
  refine Z.lnil ?_
  refine Z.only [2, 3] rfl ?_
  refine Z.nthen ?_
  refine Z.seq ?_
  refine Z.region ?_
  refine Z.lb 4 rfl ?_
  refine Z.lnil ?_
  refine Z.only [2, 3] rfl ?_
  refine Z.nthen ?_
  refine Z.ret ?_
  -- ret#0
  refine Z.out2 (by exact ⟨rfl, rfl, trivial⟩) ?_
  exact ⟨_, rfl, rfl, hs.sub (List.nil_sublist _)⟩
theorem mc_sdu (x : Int) (w : World) : Calls Try.prog 53 #[.int .i64 x] w (SX.Ret fun v w' => v = .bool (decide (sduB x)) ∧ SX.St w [] w' []) := by
  have hs := SX.St.start w
  refine Z.enter Try.func53 rfl Try.ntmps53 rfl rfl ?_
  refine Z.seq ?_
  refine Z.region ?_
  refine Z.lb 1 rfl ?_
  refine Z.lnil ?_
  refine Z.only [0] rfl ?_
  refine Z.nthen ?_
  refine Z.seq ?_
  refine Z.region ?_
  refine Z.lb 7 rfl ?_
  refine Z.lnil ?_
  refine Z.only [2] rfl ?_
  refine Z.nthen ?_
  refine Z.ret ?_
  -- ret#0
  refine Z.out1 (by exact ⟨rfl, trivial⟩) ?_
  exact ⟨_, rfl, by congr 1; rw [Bool.eq_iff_iff]; simp only [decide_eq_true_eq]; unfold sduB; simp, hs⟩
theorem mr_sdu (x : Int) (w : World) : Calls Try.prog 48 #[.int .i64 x] w (SX.Ret fun v w' => v = .bool (decide (sduB x)) ∧ SX.St w [] w' []) := by
  have hs := SX.St.start w
  refine Z.enter Try.func48 rfl Try.ntmps48 rfl rfl ?_
  refine Z.seq ?_
  refine Z.region ?_
  refine Z.lb 1 rfl ?_
  refine Z.lnil ?_
  refine Z.only [0] rfl ?_
  refine Z.nthen ?_
  refine Z.seq ?_
  refine Z.region ?_
  refine Z.lb 7 rfl ?_
  refine Z.lnil ?_
  refine Z.only [2] rfl ?_
  refine Z.nthen ?_
  refine Z.ret ?_
  -- ret#0
  refine Z.out1 (by exact ⟨rfl, trivial⟩) ?_
  exact ⟨_, rfl, by congr 1; rw [Bool.eq_iff_iff]; simp only [decide_eq_true_eq]; unfold sduB; simp, hs⟩
theorem mr_Control (x : Int) (w : World) : Calls Try.prog 22 #[.int .i64 x] w (SX.Ret fun v w' => v = .int .i64 (ctlN x) ∧ SX.St w [] w' []) := by
  have hs := SX.St.start w
  have e : ∀ z : Int, z = ctlN x → ∀ w', SX.St w [] w' [] → ∃ v, Ending.returned (.int .i64 z) = .returned v ∧ v = .int .i64 (ctlN x) ∧ SX.St w [] w' [] := fun z hz w' hw => ⟨_, rfl, by rw [hz], hw⟩
  refine Z.enter Try.func22 rfl Try.ntmps22 rfl rfl ?_
  refine Z.seq ?_
  refine Z.region ?_
  refine Z.lb 1 rfl ?_
  refine Z.lnil ?_
  refine Z.only [0] rfl ?_
  refine Z.nthen ?_
  refine Z.seq ?_
  refine Z.seq ?_
  refine Z.region ?_
  refine Z.lb 1 rfl ?_
  refine Z.lnil ?_
  refine Z.only [3] rfl ?_
  refine Z.nthen ?_
  refine Z.block ?_
  refine Z.seq ?_
  refine Z.seq ?_
  refine Z.region ?_
  refine Z.lb 2 rfl ?_
  refine Z.lnil ?_
  refine Z.only [3, 4] rfl ?_
  refine Z.nthen ?_
  refine Z.cond rfl (fun hc2 => ?_) (fun hc2 => ?_)
  · first
      | (exfalso; simp at hc2 <;> omega)
      | (
        (try simp at hc2)
        refine Z.skip ?_
        refine Z.nthen ?_
        refine Z.cond rfl (fun hc2 => ?_) (fun hc2 => ?_)
        · first
            | (exfalso; simp at hc2 <;> omega)
            | (
              (try simp at hc2)
              refine Z.seq ?_
              refine Z.region ?_
              refine Z.lb 1 rfl ?_
              refine Z.lnil ?_
              refine Z.only [2] rfl ?_
              refine Z.nthen ?_
              refine Z.ret ?_
              repeat (first | refine Z.rthen ?_ | refine Z.rblock ?_ | refine Z.rscope ?_)
              -- ret#0
              refine Z.out1 (by exact ⟨rfl, trivial⟩) ?_
              refine e _ ?_ _ hs
              unfold ctlN
              simp_all
              )
        · first
            | (exfalso; simp at hc2 <;> omega)
            | (
              (try simp at hc2)
              refine Z.seq ?_
              refine Z.region ?_
              refine Z.lb 2 rfl ?_
              refine Z.lnil ?_
              refine Z.only [3, 7] rfl ?_
              refine Z.nthen ?_
              refine Z.cond rfl (fun hc5 => ?_) (fun hc5 => ?_)
              · first
                  | (exfalso; simp at hc5 <;> omega)
                  | (
                    (try simp at hc5)
                    refine Z.seq ?_
                    refine Z.region ?_
                    refine Z.lb 1 rfl ?_
                    refine Z.lnil ?_
                    refine Z.only [2] rfl ?_
                    refine Z.nthen ?_
                    refine Z.ret ?_
                    repeat (first | refine Z.rthen ?_ | refine Z.rblock ?_ | refine Z.rscope ?_)
                    -- ret#1
                    refine Z.out1 (by exact ⟨rfl, trivial⟩) ?_
                    refine e _ ?_ _ hs
                    unfold ctlN
                    simp_all
                    )
              · first
                  | (exfalso; simp at hc5 <;> omega)
                  | (
                    (try simp at hc5)
                    refine Z.seq ?_
                    refine Z.region ?_
                    refine Z.lb 2 rfl ?_
                    refine Z.lnil ?_
                    refine Z.only [3, 9] rfl ?_
                    refine Z.nthen ?_
                    refine Z.cond rfl (fun hc7 => ?_) (fun hc7 => ?_)
                    · first
                        | (exfalso; simp at hc7 <;> omega)
                        | (
                          (try simp at hc7)
                          refine Z.seq ?_
                          refine Z.region ?_
                          refine Z.lb 1 rfl ?_
                          refine Z.lnil ?_
                          refine Z.only [2] rfl ?_
                          refine Z.nthen ?_
                          refine Z.ret ?_
                          repeat (first | refine Z.rthen ?_ | refine Z.rblock ?_ | refine Z.rscope ?_)
                          -- ret#2
                          refine Z.out1 (by exact ⟨rfl, trivial⟩) ?_
                          refine e _ ?_ _ hs
                          unfold ctlN
                          simp_all
                          )
                    · first
                        | (exfalso; simp at hc7 <;> omega)
                        | (
                          (try simp at hc7)
                          refine Z.seq ?_
                          refine Z.region ?_
                          refine Z.lb 2 rfl ?_
                          refine Z.lnil ?_
                          refine Z.only [11] rfl ?_
                          refine Z.nthen ?_
                          refine Z.cond rfl (fun hc9 => ?_) (fun hc9 => ?_)
                          · first
                              | (exfalso; simp at hc9 <;> omega)
                              | (
                                (try simp at hc9)
                                refine Z.seq ?_
                                refine Z.region ?_
                                refine Z.lb 1 rfl ?_
                                refine Z.lnil ?_
                                refine Z.only [2] rfl ?_
                                refine Z.nthen ?_
                                refine Z.ret ?_
                                repeat (first | refine Z.rthen ?_ | refine Z.rblock ?_ | refine Z.rscope ?_)
                                -- ret#3
                                refine Z.out1 (by exact ⟨rfl, trivial⟩) ?_
                                refine e _ ?_ _ hs
                                unfold ctlN
                                simp_all
                                )
                          · first
                              | (exfalso; simp at hc9 <;> omega)
                              | (
                                (try simp at hc9)
                                refine Z.skip ?_
                                refine Z.nblock ?_
                                refine Z.nthen ?_
                                refine Z.seq ?_
                                refine Z.region ?_
                                refine Z.lb 1 rfl ?_
                                refine Z.lnil ?_
                                refine Z.only [2] rfl ?_
                                refine Z.nthen ?_
                                refine Z.ret ?_
                                -- ret#4
                                refine Z.out1 (by exact ⟨rfl, trivial⟩) ?_
                                refine e _ ?_ _ hs
                                unfold ctlN
                                simp_all
                                )
                          )
                    )
              )
        )
  · first
      | (exfalso; simp at hc2 <;> omega)
      | (
        (try simp at hc2)
        refine Z.region ?_
        refine Z.lb 2 rfl ?_
        refine Z.lnil ?_
        refine Z.only [3, 4] rfl ?_
        refine Z.nthen ?_
        refine Z.cond rfl (fun hc3 => ?_) (fun hc3 => ?_)
        · first
            | (exfalso; simp at hc3 <;> omega)
            | (
              (try simp at hc3)
              refine Z.seq ?_
              refine Z.region ?_
              refine Z.lb 1 rfl ?_
              refine Z.lnil ?_
              refine Z.only [2] rfl ?_
              refine Z.nthen ?_
              refine Z.ret ?_
              repeat (first | refine Z.rthen ?_ | refine Z.rblock ?_ | refine Z.rscope ?_)
              -- ret#5
              refine Z.out1 (by exact ⟨rfl, trivial⟩) ?_
              refine e _ ?_ _ hs
              unfold ctlN
              simp_all
              )
        · first
            | (exfalso; simp at hc3 <;> omega)
            | (
              (try simp at hc3)
              refine Z.seq ?_
              refine Z.region ?_
              refine Z.lb 2 rfl ?_
              refine Z.lnil ?_
              refine Z.only [3, 7] rfl ?_
              refine Z.nthen ?_
              refine Z.cond rfl (fun hc5 => ?_) (fun hc5 => ?_)
              · first
                  | (exfalso; simp at hc5 <;> omega)
                  | (
                    (try simp at hc5)
                    refine Z.seq ?_
                    refine Z.region ?_
                    refine Z.lb 1 rfl ?_
                    refine Z.lnil ?_
                    refine Z.only [2] rfl ?_
                    refine Z.nthen ?_
                    refine Z.ret ?_
                    repeat (first | refine Z.rthen ?_ | refine Z.rblock ?_ | refine Z.rscope ?_)
                    -- ret#6
                    refine Z.out1 (by exact ⟨rfl, trivial⟩) ?_
                    refine e _ ?_ _ hs
                    unfold ctlN
                    simp_all
                    )
              · first
                  | (exfalso; simp at hc5 <;> omega)
                  | (
                    (try simp at hc5)
                    refine Z.seq ?_
                    refine Z.region ?_
                    refine Z.lb 2 rfl ?_
                    refine Z.lnil ?_
                    refine Z.only [3, 9] rfl ?_
                    refine Z.nthen ?_
                    refine Z.cond rfl (fun hc7 => ?_) (fun hc7 => ?_)
                    · first
                        | (exfalso; simp at hc7 <;> omega)
                        | (
                          (try simp at hc7)
                          refine Z.seq ?_
                          refine Z.region ?_
                          refine Z.lb 1 rfl ?_
                          refine Z.lnil ?_
                          refine Z.only [2] rfl ?_
                          refine Z.nthen ?_
                          refine Z.ret ?_
                          repeat (first | refine Z.rthen ?_ | refine Z.rblock ?_ | refine Z.rscope ?_)
                          -- ret#7
                          refine Z.out1 (by exact ⟨rfl, trivial⟩) ?_
                          refine e _ ?_ _ hs
                          unfold ctlN
                          simp_all
                          )
                    · first
                        | (exfalso; simp at hc7 <;> omega)
                        | (
                          (try simp at hc7)
                          refine Z.seq ?_
                          refine Z.region ?_
                          refine Z.lb 2 rfl ?_
                          refine Z.lnil ?_
                          refine Z.only [11] rfl ?_
                          refine Z.nthen ?_
                          refine Z.cond rfl (fun hc9 => ?_) (fun hc9 => ?_)
                          · first
                              | (exfalso; simp at hc9 <;> omega)
                              | (
                                (try simp at hc9)
                                refine Z.seq ?_
                                refine Z.region ?_
                                refine Z.lb 1 rfl ?_
                                refine Z.lnil ?_
                                refine Z.only [2] rfl ?_
                                refine Z.nthen ?_
                                refine Z.ret ?_
                                repeat (first | refine Z.rthen ?_ | refine Z.rblock ?_ | refine Z.rscope ?_)
                                -- ret#8
                                refine Z.out1 (by exact ⟨rfl, trivial⟩) ?_
                                refine e _ ?_ _ hs
                                unfold ctlN
                                simp_all
                                )
                          · first
                              | (exfalso; simp at hc9 <;> omega)
                              | (
                                (try simp at hc9)
                                refine Z.skip ?_
                                refine Z.nblock ?_
                                refine Z.nthen ?_
                                refine Z.seq ?_
                                refine Z.region ?_
                                refine Z.lb 1 rfl ?_
                                refine Z.lnil ?_
                                refine Z.only [2] rfl ?_
                                refine Z.nthen ?_
                                refine Z.ret ?_
                                -- ret#9
                                refine Z.out1 (by exact ⟨rfl, trivial⟩) ?_
                                refine e _ ?_ _ hs
                                unfold ctlN
                                simp_all
                                )
                          )
                    )
              )
        )
end Go.Proofs.Ytogjkgoiofngaaa

/- MAC PDUs: valid lists, the need, the fit. -/
namespace Go.Proofs.Ytogjkgoiofngaaa
open Go.RowKit
set_option linter.unusedSimpArgs false
set_option linter.unusedVariables false
--newlaws

abbrev Prt := Int × List Int
def vldP : Bool → List Prt → Bool
  | _, [] => true
  | d, p :: r => if sduB p.1 then decide (1 ≤ p.2.length ∧ p.2.length ≤ 32767) && vldP true r else !d && decide (ctlN p.1 ≠ 0) && decide ((p.2.length : Int) = ctlN p.1) && vldP d r
theorem vldP_cons (d : Bool) (p : Prt) (r : List Prt) : vldP d (p :: r) = if sduB p.1 then decide (1 ≤ p.2.length ∧ p.2.length ≤ 32767) && vldP true r else !d && decide (ctlN p.1 ≠ 0) && decide ((p.2.length : Int) = ctlN p.1) && vldP d r := rfl
def extP (p : Prt) : Int := if sduB p.1 then (if 127 < p.2.length then 2 else 1) else 0
theorem extP_bd (p : Prt) : 0 ≤ extP p ∧ extP p ≤ 2 := by unfold extP; split <;> (try split) <;> omega
def totP (r : List Prt) : Int := (r.map fun p => 1 + extP p + (p.2.length : Int)).sum
theorem totP_snoc (r : List Prt) (p : Prt) : totP (r ++ [p]) = totP r + (1 + extP p + (p.2.length : Int)) := by simp [totP]
theorem totP_cons (p : Prt) (r : List Prt) : totP (p :: r) = (1 + extP p + (p.2.length : Int)) + totP r := by simp [totP]
theorem totP_bd {ps : List MpV} (h : ∀ q ∈ ps, q.l.length ≤ 100000) : 0 ≤ totP (ps.map MpV.plain) ∧ totP (ps.map MpV.plain) ≤ ps.length * 100003 := by
  induction ps with
  | nil => simp [totP]
  | cons q r ih =>
    have h1 := ih fun x hx => h x (by simp [hx])
    have h2 := h q (by simp)
    have h3 := extP_bd q.plain
    rw [List.map_cons, totP_cons]
    have h4 : (q.plain.2.length : Int) = q.l.length := rfl
    have h5 : (((q :: r).length : Nat) : Int) * 100003 = r.length * 100003 + 100003 := by rw [List.length_cons]; omega
    omega
theorem plain_at {ps : List MpV} {i : Nat} {q : MpV} (h : ps[i]? = some q) : (ps.map MpV.plain).drop i = q.plain :: (ps.map MpV.plain).drop (i + 1) := by
  obtain ⟨hi, hq⟩ := List.getElem?_eq_some_iff.1 h
  rw [List.drop_eq_getElem_cons (by simpa using hi)]
  simp [hq]
theorem plain_take {ps : List MpV} {i : Nat} {q : MpV} (h : ps[i]? = some q) : (ps.map MpV.plain).take (i + 1) = (ps.map MpV.plain).take i ++ [q.plain] := by
  rw [List.take_add_one, List.getElem?_map, h]
  rfl
theorem mc_valid (A : Option Addr) (n c : Nat) (ps : List MpV) (w : World) (hx : Sl w A (ps.flatMap MpV.cells)) (hl : ps.length = n) (hn : n ≤ 9223372036854775807) :
    Calls Try.prog 40 #[.slice A n c] w (SX.Ret fun v w' => v = .bool (vldP false (ps.map MpV.plain)) ∧ SX.St w [] w' []) := by
  have hs := SX.St.start w
  refine Z.enter Try.func40 rfl Try.ntmps40 rfl rfl ?_
  refine Z.seq ?_
  refine Z.region ?_
  refine Z.lb 1 rfl ?_
  refine Z.lnil ?_
  refine Z.only [0] rfl ?_
  refine Z.nthen ?_
  refine Z.seq ?_
  refine Z.region ?_
  refine Z.lb 1 rfl ?_
  refine Z.lnil ?_
  refine Z.only [0, 3] rfl ?_
  refine Z.nthen ?_
  refine Z.seq ?_
  refine Z.seq ?_
  refine Z.region ?_
  refine Z.lb 1 rfl ?_
  refine Z.l rfl rfl (by rfl) (Z.keepS hs) (Z.Yd.lenS rfl Try.underlying22) ?_
  refine Z.lb 1 rfl ?_
  refine Z.lnil ?_
  refine Z.only [3, 8, 9, 10] rfl ?_
  refine Z.nthen ?_
  refine Z.block ?_
  refine Z.loopk (ι := Nat × Bool) [8, 9] rfl (fun x => [(3, [], .bool x.2), (10, [], .int .i64 (x.1 : Int))]) (fun x wr => (x.1 ≤ n ∧ vldP false (ps.map MpV.plain) = vldP x.2 ((ps.map MpV.plain).drop x.1)) ∧ SX.St w [] wr []) (fun x => n - x.1) (0, false) (by refine ⟨?_, ?_, trivial⟩ <;> (first | rfl | (refine Z.lookv rfl ?_; simp; done) | (refine Z.lookv rfl ?_; simp; omega))) ⟨⟨Nat.zero_le _, rfl⟩, hs⟩ ?_
  clear hs
  rintro ⟨i, d⟩ w3 ⟨⟨hi, hV⟩, hs⟩
  refine Z.only [3, 8, 9, 10] rfl ?_
  (try dsimp only at hs)
  dsimp only at hi hV
  refine Z.seq ?_
  refine Z.region ?_
  refine Z.lb 1 rfl ?_
  refine Z.lnil ?_
  refine Z.only [3, 8, 9, 10, 11] rfl ?_
  refine Z.nthen ?_
  refine Z.seq ?_
  refine Z.cond rfl (fun hc3 => ?_) (fun hc3 => ?_)
  · first
      | (exfalso; simp at hc3 <;> omega)
      | (
        (try simp at hc3)
        obtain ⟨b, off, rfl, hb0, hx2⟩ := Z.Sl.some hx (by rw [fl_len mp_len]; omega)
        obtain ⟨q, hqi⟩ : ∃ q, ps[i]? = some q := ⟨_, List.getElem?_eq_getElem (by omega)⟩
        rw [plain_at hqi] at hV
        have hone := mp_one q
        have e1 : q.plain.1 = q.lc := rfl
        have e2 : q.plain.2 = q.l := rfl
        rw [vldP_cons, e1, e2] at hV
        refine Z.skip ?_
        refine Z.nthen ?_
        refine Z.seq ?_
        refine Z.block ?_
        refine Z.seq ?_
        refine Z.region ?_
        refine Z.l rfl rfl (by rfl) (Z.keepS hs) (Z.Yd.elem rfl rfl Try.underlying22 Try.sizeOf47 (fun hG => ⟨(by first | omega | (have hG' := Z.gh rfl hG; simp at hG'; omega)), (by first | omega | (have hG' := Z.gh rfl hG; simp at hG'; omega))⟩)) ?_
        refine Z.l rfl rfl (by rfl) (Z.keepS hs) (Z.Yd.loadA _ rfl Try.isAgg47 (fun _ W hK j u hu => Z.cellXq (enc := MpV.cells) hx2.sx mp_len hqi hu W hK) (by exact Try.sizeOf47)) ?_
        refine Z.le rfl trivial ?_
        refine Z.ZO.alloc rfl rfl (by rfl) Try.zeroValue47 rfl hs ?_
        clear hs; intro g5 w5 hs
        refine Z.le rfl trivial ?_
        first | refine Z.ZO.storeA rfl rfl hs rfl rfl (by kernel_rfl) (by first | (simp [Value.oneCell']; done) | (refine Z.all_one ?_; assumption)) (by first | exact SX.at0 | exact SX.at1 | exact SX.at2 | exact SX.at3 | exact SX.at4 | exact SX.at5 | exact Z.at6 | exact Z.at7 | exact Z.at8 | exact Z.at9 | exact Z.at10 | exact Z.at11 | exact Z.at12) (by rfl) ?_ | refine Z.ZO.storeP rfl rfl hs rfl rfl (by kernel_rfl) (by first | (simp [Value.oneCell']; done) | (refine Z.all_one ?_; assumption)) (by first | exact SX.at0 | exact SX.at1 | exact SX.at2 | exact SX.at3 | exact SX.at4 | exact SX.at5 | exact Z.at6 | exact Z.at7 | exact Z.at8 | exact Z.at9 | exact Z.at10 | exact Z.at11 | exact Z.at12) (by first | decide | (simp; done) | (simp; omega)) ?_ | refine Z.ZO.storePR rfl rfl hs rfl rfl (by kernel_rfl) (by first | (simp [Value.oneCell']; done) | (refine Z.all_one ?_; assumption)) (by first | exact SX.at0 | exact SX.at1 | exact SX.at2 | exact SX.at3 | exact SX.at4 | exact SX.at5 | exact Z.at6 | exact Z.at7 | exact Z.at8 | exact Z.at9 | exact Z.at10 | exact Z.at11 | exact Z.at12) (by first | decide | (simp; done) | (simp; omega)) ?_
        clear hs; intro ws hs
        simp only [Nat.zero_add, Nat.add_zero, Nat.reduceAdd, Int.reduceToNat, Nat.reduceMul, List.set_cons_zero, List.set_cons_succ, List.setIfInBounds_toArray] at hs
        try simp only [Z.putL, Nat.zero_add] at hs
        refine Z.lnil ?_
        refine Z.only [3, 5, 8, 9, 10] rfl ?_
        refine Z.nthen ?_
        refine Z.seq ?_
        refine Z.region ?_
        refine Z.l rfl rfl (by rfl) (Z.keepS hs) (Z.Yd.fieldA (m := 0) rfl (by kernel_rfl)) ?_
        refine Z.l rfl rfl (by rfl) (Z.keepS hs) (by first | exact Z.Yd.load rfl Try.isAgg3 (fun _ => Z.cellB (by first | ((repeat (first | exact List.mem_cons_self | refine List.mem_cons_of_mem _ ?_ | refine List.mem_append_right _ ?_)); done) | fail) rfl) | exact Z.Yd.load rfl Try.isAgg3 (fun _ => Z.cellO (by assumption) (by simp) (by assumption)) | fail "load 5.1") ?_
        refine Z.le rfl trivial ?_
        refine Z.ZO.call rfl rfl (by rfl) rfl rfl Try.call21 rfl (mc_Control q.lc _) ?_
        rintro v5_2 w5_2 ⟨rfl, hy⟩
        replace hs := hs.call hy
        clear hy
        try simp only [List.cons_append, List.nil_append, List.append_nil] at hs
        refine Z.lb 5 rfl ?_
        refine Z.lnil ?_
        refine Z.only [3, 5, 6, 7, 8, 9, 10] rfl ?_
        refine Z.nthen ?_
        refine Z.block ?_
        refine Z.seq ?_
        refine Z.region ?_
        refine Z.l rfl rfl (by rfl) (Z.keepS hs) (Z.Yd.fieldA (m := 0) rfl (by kernel_rfl)) ?_
        refine Z.l rfl rfl (by rfl) (Z.keepS hs) (by first | exact Z.Yd.load rfl Try.isAgg3 (fun _ => Z.cellB (by first | ((repeat (first | exact List.mem_cons_self | refine List.mem_cons_of_mem _ ?_ | refine List.mem_append_right _ ?_)); done) | fail) rfl) | exact Z.Yd.load rfl Try.isAgg3 (fun _ => Z.cellO (by assumption) (by simp) (by assumption)) | fail "load 6.1") ?_
        refine Z.le rfl trivial ?_
        refine Z.ZO.call rfl rfl (by rfl) rfl rfl Try.call53 rfl (mc_sdu q.lc _) ?_
        rintro v6_2 w6_2 ⟨rfl, hy⟩
        replace hs := hs.call hy
        clear hy
        try simp only [List.cons_append, List.nil_append, List.append_nil] at hs
        refine Z.lb 1 rfl ?_
        refine Z.lnil ?_
        refine Z.only [3, 5, 6, 7, 8, 9, 10, 20] rfl ?_
        refine Z.nthen ?_
        refine Z.cond rfl (fun hc6 => ?_) (fun hc6 => ?_)
        · first
            | (exfalso; simp at hc6 <;> omega)
            | (
              (try simp at hc6)
              have hsd : sduB q.lc := by assumption
              rw [if_pos hsd] at hV
              refine Z.seq ?_
              refine Z.region ?_
              refine Z.lb 1 rfl ?_
              refine Z.lnil ?_
              refine Z.only [3, 5, 8, 9, 10] rfl ?_
              refine Z.nthen ?_
              refine Z.seq ?_
              refine Z.region ?_
              refine Z.l rfl rfl (by rfl) (Z.keepS hs) (Z.Yd.fieldA (m := 1) rfl (by kernel_rfl)) ?_
              refine Z.l rfl rfl (by rfl) (Z.keepS hs) (by first | exact Z.Yd.load rfl Try.isAgg26 (fun _ => Z.cellB (by first | ((repeat (first | exact List.mem_cons_self | refine List.mem_cons_of_mem _ ?_ | refine List.mem_append_right _ ?_)); done) | fail) rfl) | exact Z.Yd.load rfl Try.isAgg26 (fun _ => Z.cellO (by assumption) (by simp) (by assumption)) | fail "load 8.1") ?_
              refine Z.l rfl rfl (by rfl) (Z.keepS hs) (Z.Yd.lenS rfl Try.underlying26) ?_
              refine Z.lb 2 rfl ?_
              refine Z.l rfl rfl (by rfl) (Z.keepS hs) (Z.Yd.fieldA (m := 1) rfl (by kernel_rfl)) ?_
              refine Z.l rfl rfl (by rfl) (Z.keepS hs) (by first | exact Z.Yd.load rfl Try.isAgg26 (fun _ => Z.cellB (by first | ((repeat (first | exact List.mem_cons_self | refine List.mem_cons_of_mem _ ?_ | refine List.mem_append_right _ ?_)); done) | fail) rfl) | exact Z.Yd.load rfl Try.isAgg26 (fun _ => Z.cellO (by assumption) (by simp) (by assumption)) | fail "load 8.6") ?_
              refine Z.l rfl rfl (by rfl) (Z.keepS hs) (Z.Yd.lenS rfl Try.underlying26) ?_
              refine Z.lb 2 rfl ?_
              refine Z.lnil ?_
              refine Z.only [3, 8, 9, 10, 33] rfl ?_
              refine Z.nthen ?_
              refine Z.cond rfl (fun hc8 => ?_) (fun hc8 => ?_)
              · first
                  | (exfalso; simp at hc8 <;> omega)
                  | (
                    (try simp at hc8)
                    refine Z.seq ?_
                    refine Z.region ?_
                    refine Z.lb 1 rfl ?_
                    refine Z.lnil ?_
                    refine Z.only [2] rfl ?_
                    refine Z.nthen ?_
                    refine Z.ret ?_
                    repeat (first | refine Z.rthen ?_ | refine Z.rblock ?_ | refine Z.rscope ?_)
                    -- ret#0
                    refine Z.out1 (by exact ⟨rfl, trivial⟩) ?_
                    first
                    | (obtain rfl : i = n := by omega
                       rw [List.drop_of_length_le (by simp; omega)] at hV
                       exact ⟨_, rfl, by rw [hV]; rfl, hs⟩)
                    | exact ⟨_, rfl, by rw [hV, decide_eq_false (by omega), Bool.false_and], hs.sub (List.nil_sublist _)⟩
                    | exact ⟨_, rfl, by rw [hV]; rcases hc10 with (h | h) | h <;> simp [h], hs.sub (List.nil_sublist _)⟩
                    )
              · first
                  | (exfalso; simp at hc8 <;> omega)
                  | (
                    (try simp at hc8)
                    refine Z.skip ?_
                    refine Z.nblock ?_
                    refine Z.nblock ?_
                    refine Z.nthen ?_
                    refine Z.region ?_
                    refine Z.l rfl rfl (by rfl) (Z.keepS hs) (Z.Yd.add rfl rfl (fun hG => Z.wi64 (by first | omega | (have hG' := Z.gh rfl hG; simp at hG'; omega)))) ?_
                    refine Z.lb 1 rfl ?_
                    refine Z.lnil ?_
                    refine Z.only [3, 8, 9, 10] rfl ?_
                    refine Z.nthen ?_
                    first
                    | exact Z.again (i + 1, true) (by refine ⟨?_, ?_, ?_, ?_, trivial⟩ <;> (first | rfl | (refine Z.lookv rfl ?_; simp; done) | (refine Z.lookv rfl ?_; simp; omega))) ⟨⟨by simp only; omega, by rw [hV, decide_eq_true (by omega), Bool.true_and]⟩, hs.sub (List.nil_sublist _)⟩ (by simp only; omega)
                    | exact Z.again (i + 1, d) (by refine ⟨?_, ?_, ?_, ?_, trivial⟩ <;> (first | rfl | (refine Z.lookv rfl ?_; simp; done) | (refine Z.lookv rfl ?_; simp; omega))) ⟨⟨by simp only; omega, by rw [hV]; simp_all⟩, hs.sub (List.nil_sublist _)⟩ (by simp only; omega)
                    )
              )
        · first
            | (exfalso; simp at hc6 <;> omega)
            | (
              (try simp at hc6)
              have hsd : ¬ sduB q.lc := by assumption
              rw [if_neg hsd] at hV
              refine Z.seq ?_
              refine Z.region ?_
              refine Z.lb 6 rfl ?_
              refine Z.l rfl rfl (by rfl) (Z.keepS hs) (Z.Yd.fieldA (m := 1) rfl (by kernel_rfl)) ?_
              refine Z.l rfl rfl (by rfl) (Z.keepS hs) (by first | exact Z.Yd.load rfl Try.isAgg26 (fun _ => Z.cellB (by first | ((repeat (first | exact List.mem_cons_self | refine List.mem_cons_of_mem _ ?_ | refine List.mem_append_right _ ?_)); done) | fail) rfl) | exact Z.Yd.load rfl Try.isAgg26 (fun _ => Z.cellO (by assumption) (by simp) (by assumption)) | fail "load 10.7") ?_
              refine Z.l rfl rfl (by rfl) (Z.keepS hs) (Z.Yd.lenS rfl Try.underlying26) ?_
              refine Z.lb 4 rfl ?_
              refine Z.lnil ?_
              refine Z.only [3, 8, 9, 10, 34] rfl ?_
              refine Z.nthen ?_
              refine Z.cond rfl (fun hc10 => ?_) (fun hc10 => ?_)
              · first
                  | (exfalso; simp at hc10 <;> omega)
                  | (
                    (try simp at hc10)
                    refine Z.seq ?_
                    refine Z.region ?_
                    refine Z.lb 1 rfl ?_
                    refine Z.lnil ?_
                    refine Z.only [2] rfl ?_
                    refine Z.nthen ?_
                    refine Z.ret ?_
                    repeat (first | refine Z.rthen ?_ | refine Z.rblock ?_ | refine Z.rscope ?_)
                    -- ret#1
                    refine Z.out1 (by exact ⟨rfl, trivial⟩) ?_
                    first
                    | (obtain rfl : i = n := by omega
                       rw [List.drop_of_length_le (by simp; omega)] at hV
                       exact ⟨_, rfl, by rw [hV]; rfl, hs⟩)
                    | exact ⟨_, rfl, by rw [hV, decide_eq_false (by omega), Bool.false_and], hs.sub (List.nil_sublist _)⟩
                    | exact ⟨_, rfl, by rw [hV]; rcases hc10 with (h | h) | h <;> simp [h], hs.sub (List.nil_sublist _)⟩
                    )
              · first
                  | (exfalso; simp at hc10 <;> omega)
                  | (
                    (try simp at hc10)
                    refine Z.skip ?_
                    refine Z.nblock ?_
                    refine Z.nblock ?_
                    refine Z.nthen ?_
                    refine Z.region ?_
                    refine Z.l rfl rfl (by rfl) (Z.keepS hs) (Z.Yd.add rfl rfl (fun hG => Z.wi64 (by first | omega | (have hG' := Z.gh rfl hG; simp at hG'; omega)))) ?_
                    refine Z.lb 1 rfl ?_
                    refine Z.lnil ?_
                    refine Z.only [3, 8, 9, 10] rfl ?_
                    refine Z.nthen ?_
                    first
                    | exact Z.again (i + 1, true) (by refine ⟨?_, ?_, ?_, ?_, trivial⟩ <;> (first | rfl | (refine Z.lookv rfl ?_; simp; done) | (refine Z.lookv rfl ?_; simp; omega))) ⟨⟨by simp only; omega, by rw [hV, decide_eq_true (by omega), Bool.true_and]⟩, hs.sub (List.nil_sublist _)⟩ (by simp only; omega)
                    | exact Z.again (i + 1, d) (by refine ⟨?_, ?_, ?_, ?_, trivial⟩ <;> (first | rfl | (refine Z.lookv rfl ?_; simp; done) | (refine Z.lookv rfl ?_; simp; omega))) ⟨⟨by simp only; omega, by rw [hV]; simp_all⟩, hs.sub (List.nil_sublist _)⟩ (by simp only; omega)
                    )
              )
        )
  · first
      | (exfalso; simp at hc3 <;> omega)
      | (
        (try simp at hc3)
        refine Z.exit ?_
        refine Z.xthen ?_
        refine Z.xthen ?_
        refine Z.xblock ?_
        refine Z.nthen ?_
        refine Z.seq ?_
        refine Z.region ?_
        refine Z.lb 1 rfl ?_
        refine Z.lnil ?_
        refine Z.only [2] rfl ?_
        refine Z.nthen ?_
        refine Z.ret ?_
        -- ret#2
        refine Z.out1 (by exact ⟨rfl, trivial⟩) ?_
        first
        | (obtain rfl : i = n := by omega
           rw [List.drop_of_length_le (by simp; omega)] at hV
           exact ⟨_, rfl, by rw [hV]; rfl, hs⟩)
        | exact ⟨_, rfl, by rw [hV, decide_eq_false (by omega), Bool.false_and], hs.sub (List.nil_sublist _)⟩
        | exact ⟨_, rfl, by rw [hV]; rcases hc10 with (h | h) | h <;> simp [h], hs.sub (List.nil_sublist _)⟩
        )
theorem mc_formats (w : World) : Calls Try.prog 36 #[] w (SX.Ret fun v w' => v = .agg #[.int .u64 0, .int .i64 7, .int .i64 127, .int .u64 1, .int .i64 15, .int .i64 32767] ∧ SX.St w [] w' []) := by
  have hs := SX.St.start w
  refine Z.enter Try.func36 rfl Try.ntmps36 rfl rfl ?_
  refine Z.seq ?_
  refine Z.region ?_
  refine Z.le rfl trivial ?_
  refine Z.ZO.alloc rfl rfl (by rfl) Try.zeroValue76 rfl hs ?_
  clear hs; intro g0 w0 hs
  refine Z.lnil ?_
  refine Z.only [0] rfl ?_
  refine Z.nthen ?_
  refine Z.seq ?_
  refine Z.region ?_
  refine Z.l rfl rfl (by rfl) (Z.keepS hs) (Z.Yd.buildL [(0, 1), (1, 1), (2, 1)] [.int .u64 0, .int .i64 0, .int .i64 0] rfl rfl (by intro w; kernel_rfl)) ?_
  refine Z.l rfl rfl (by rfl) (Z.keepS hs) (Z.Yd.buildL [(0, 1), (1, 1), (2, 1)] [.int .u64 0, .int .i64 0, .int .i64 0] rfl rfl (by intro w; kernel_rfl)) ?_
  refine Z.l rfl rfl (by rfl) (Z.keepS hs) (Z.Yd.buildL [(0, 3), (3, 3)] [.int .u64 0, .int .i64 0, .int .i64 0, .int .u64 0, .int .i64 0, .int .i64 0] rfl rfl (by intro w; kernel_rfl)) ?_
  refine Z.le rfl trivial ?_
  first | refine Z.ZO.storeA rfl rfl hs rfl rfl (by kernel_rfl) (by first | (simp [Value.oneCell']; done) | (refine Z.all_one ?_; assumption)) (by first | exact SX.at0 | exact SX.at1 | exact SX.at2 | exact SX.at3 | exact SX.at4 | exact SX.at5 | exact Z.at6 | exact Z.at7 | exact Z.at8 | exact Z.at9 | exact Z.at10 | exact Z.at11 | exact Z.at12) (by rfl) ?_ | refine Z.ZO.storeP rfl rfl hs rfl rfl (by kernel_rfl) (by first | (simp [Value.oneCell']; done) | (refine Z.all_one ?_; assumption)) (by first | exact SX.at0 | exact SX.at1 | exact SX.at2 | exact SX.at3 | exact SX.at4 | exact SX.at5 | exact Z.at6 | exact Z.at7 | exact Z.at8 | exact Z.at9 | exact Z.at10 | exact Z.at11 | exact Z.at12) (by first | decide | (simp; done) | (simp; omega)) ?_ | refine Z.ZO.storePR rfl rfl hs rfl rfl (by kernel_rfl) (by first | (simp [Value.oneCell']; done) | (refine Z.all_one ?_; assumption)) (by first | exact SX.at0 | exact SX.at1 | exact SX.at2 | exact SX.at3 | exact SX.at4 | exact SX.at5 | exact Z.at6 | exact Z.at7 | exact Z.at8 | exact Z.at9 | exact Z.at10 | exact Z.at11 | exact Z.at12) (by first | decide | (simp; done) | (simp; omega)) ?_
  clear hs; intro ws hs
  simp only [Nat.zero_add, Nat.add_zero, Nat.reduceAdd, Int.reduceToNat, Nat.reduceMul, List.set_cons_zero, List.set_cons_succ, List.setIfInBounds_toArray] at hs
  try simp only [Z.putL, Nat.zero_add] at hs
  refine Z.lnil ?_
  refine Z.only [0] rfl ?_
  refine Z.nthen ?_
  refine Z.ret ?_
  -- ret#0
  refine Z.out1 (by exact ⟨⟨_, rfl, Z.rvcA hs Try.isAgg76 (by first | ((repeat (first | exact List.mem_cons_self | refine List.mem_cons_of_mem _ ?_ | refine List.mem_append_right _ ?_)); done) | fail) (by exact Try.sizeOf76)⟩, trivial⟩) ?_
  exact ⟨_, rfl, rfl, hs.sub (List.nil_sublist _)⟩
theorem mc_extra (q : MpV) (w : World) : Calls Try.prog 35 #[.agg q.cells.toArray] w (SX.Ret fun v w' => v = .int .i64 (extP q.plain) ∧ SX.St w [] w' []) := by
  have hs := SX.St.start w
  have e1 : q.plain.1 = q.lc := rfl
  have e2 : q.plain.2 = q.l := rfl
  show Calls Try.prog 35 #[.agg #[.int .i64 q.lc, .slice q.B q.l.length q.c]] w _
  unfold extP
  rw [e1, e2]
  refine Z.enter Try.func35 rfl Try.ntmps35 rfl rfl ?_
  refine Z.seq ?_
  refine Z.region ?_
  refine Z.le rfl trivial ?_
  refine Z.ZO.box rfl rfl (by rfl) rfl rfl hs ?_
  clear hs; intro g1 w1 hs
  refine Z.lb 1 rfl ?_
  refine Z.lnil ?_
  refine Z.only [1] rfl ?_
  refine Z.nthen ?_
  refine Z.seq ?_
  refine Z.seq ?_
  refine Z.region ?_
  refine Z.l rfl rfl (by rfl) (Z.keepS hs) (Z.Yd.fieldA (m := 0) rfl (by kernel_rfl)) ?_
  refine Z.l rfl rfl (by rfl) (Z.keepS hs) (by first | exact Z.Yd.load rfl Try.isAgg3 (fun _ => Z.cellB (by first | ((repeat (first | exact List.mem_cons_self | refine List.mem_cons_of_mem _ ?_ | refine List.mem_append_right _ ?_)); done) | fail) rfl) | exact Z.Yd.load rfl Try.isAgg3 (fun _ => Z.cellO (by assumption) (by simp) (by assumption)) | fail "load 1.1") ?_
  refine Z.le rfl trivial ?_
  refine Z.ZO.call rfl rfl (by rfl) rfl rfl Try.call53 rfl (mc_sdu q.lc _) ?_
  rintro v1_2 w1_2 ⟨rfl, hy⟩
  replace hs := hs.call hy
  clear hy
  try simp only [List.cons_append, List.nil_append, List.append_nil] at hs
  refine Z.lb 1 rfl ?_
  refine Z.lnil ?_
  refine Z.only [1, 6] rfl ?_
  refine Z.nthen ?_
  refine Z.cond rfl (fun hc1 => ?_) (fun hc1 => ?_)
  · first
      | (exfalso; simp at hc1 <;> omega)
      | (
        (try simp at hc1)
        have hsd : ¬ sduB q.lc := by assumption
        rw [if_neg hsd]
        refine Z.seq ?_
        refine Z.region ?_
        refine Z.lb 1 rfl ?_
        refine Z.lnil ?_
        refine Z.only [2] rfl ?_
        refine Z.nthen ?_
        refine Z.ret ?_
        repeat (first | refine Z.rthen ?_ | refine Z.rblock ?_ | refine Z.rscope ?_)
        -- ret#0
        refine Z.out1 (by exact ⟨rfl, trivial⟩) ?_
        first
        | exact ⟨_, rfl, rfl, hs.sub (List.nil_sublist _)⟩
        | exact ⟨_, rfl, by rw [if_pos (by omega)], hs.sub (List.nil_sublist _)⟩
        | exact ⟨_, rfl, by rw [if_neg (by omega)], hs.sub (List.nil_sublist _)⟩
        )
  · first
      | (exfalso; simp at hc1 <;> omega)
      | (
        (try simp at hc1)
        have hsd : sduB q.lc := by assumption
        rw [if_pos hsd]
        refine Z.skip ?_
        refine Z.nthen ?_
        refine Z.seq ?_
        refine Z.seq ?_
        refine Z.drawL [SX.Ent.blk g1 47 #[.int .i64 q.lc, .slice q.B q.l.length q.c]] (fun _ => true) mixed hs ?_
        clear hs; intro wd3 hs
        refine Z.t 0 rfl rfl rfl (by rfl) (by kernel_rfl) ⟨_, hs, by first | (simp; done) | exact fun e he => List.mem_append_right _ he⟩ (Z.Yd.fieldA (m := 1) rfl (by kernel_rfl)) ?_
        refine Z.t 1 rfl rfl rfl (by rfl) (by kernel_rfl) ⟨_, hs, by first | (simp; done) | exact fun e he => List.mem_append_right _ he⟩ (by first | exact Z.Yd.load rfl Try.isAgg26 (fun _ => Z.cellB (by first | ((repeat (first | exact List.mem_cons_self | refine List.mem_cons_of_mem _ ?_ | refine List.mem_append_right _ ?_)); done) | fail) rfl) | exact Z.Yd.load rfl Try.isAgg26 (fun _ => Z.cellO (by assumption) (by simp) (by assumption)) | fail "load 3.1") ?_
        refine Z.t 2 rfl rfl rfl (by rfl) (by kernel_rfl) ⟨_, hs, by first | (simp; done) | exact fun e he => List.mem_append_right _ he⟩ (Z.Yd.lenS rfl Try.underlying26) ?_
        refine Z.tn 3 rfl rfl (by kernel_rfl) rfl trivial ?_
        refine Z.ZO.call rfl rfl (by rfl) rfl rfl Try.call36 rfl (mc_formats _) ?_
        rintro v3_3 w3_3 ⟨rfl, hy⟩
        replace hs := hs.call hy
        clear hy
        try simp only [List.cons_append, List.nil_append, List.append_nil] at hs
        refine Z.tk (Dn := fun _ => true) (i := 3) (fun _ => ⟨_, hs, by first | (simp; done) | exact fun e he => List.mem_append_right _ he⟩) ?_
        refine Z.t 4 rfl rfl rfl (by rfl) (by kernel_rfl) ⟨_, hs, by first | (simp; done) | exact fun e he => List.mem_append_right _ he⟩ (Z.Yd.index (v := .agg #[.int .u64 0, .int .i64 7, .int .i64 127]) rfl rfl (by intro _ w; kernel_rfl)) ?_
        refine Z.t 5 rfl rfl rfl (by rfl) (by kernel_rfl) ⟨_, hs, by first | (simp; done) | exact fun e he => List.mem_append_right _ he⟩ (by first | exact Z.Yd.fieldL 2 1 rfl rfl (by intro w; kernel_rfl) | exact Z.Yd.field rfl (by intro w; go_simp; try rfl)) ?_
        refine Z.tb [6] (by kernel_rfl) rfl ⟨_, hs, by first | (simp; done) | exact fun e he => List.mem_append_right _ he⟩ rfl ?_
        refine Z.td (by rfl) (by kernel_rfl) ?_
        refine Z.only [13] rfl ?_
        refine Z.nthen ?_
        refine Z.cond rfl (fun hc3 => ?_) (fun hc3 => ?_)
        · first
            | (exfalso; simp at hc3 <;> omega)
            | (
              (try simp at hc3)
              refine Z.seq ?_
              refine Z.region ?_
              refine Z.lb 1 rfl ?_
              refine Z.lnil ?_
              refine Z.only [2] rfl ?_
              refine Z.nthen ?_
              refine Z.ret ?_
              repeat (first | refine Z.rthen ?_ | refine Z.rblock ?_ | refine Z.rscope ?_)
              -- ret#1
              refine Z.out1 (by exact ⟨rfl, trivial⟩) ?_
              first
              | exact ⟨_, rfl, rfl, hs.sub (List.nil_sublist _)⟩
              | exact ⟨_, rfl, by rw [if_pos (by omega)], hs.sub (List.nil_sublist _)⟩
              | exact ⟨_, rfl, by rw [if_neg (by omega)], hs.sub (List.nil_sublist _)⟩
              )
        · first
            | (exfalso; simp at hc3 <;> omega)
            | (
              (try simp at hc3)
              refine Z.skip ?_
              refine Z.nthen ?_
              refine Z.seq ?_
              refine Z.region ?_
              refine Z.lb 1 rfl ?_
              refine Z.lnil ?_
              refine Z.only [2] rfl ?_
              refine Z.nthen ?_
              refine Z.ret ?_
              -- ret#2
              refine Z.out1 (by exact ⟨rfl, trivial⟩) ?_
              first
              | exact ⟨_, rfl, rfl, hs.sub (List.nil_sublist _)⟩
              | exact ⟨_, rfl, by rw [if_pos (by omega)], hs.sub (List.nil_sublist _)⟩
              | exact ⟨_, rfl, by rw [if_neg (by omega)], hs.sub (List.nil_sublist _)⟩
              )
        )
theorem mc_total (A : Option Addr) (n c : Nat) (ps : List MpV) (w : World) (hx : Sl w A (ps.flatMap MpV.cells)) (hl : ps.length = n) (hn : n ≤ 1000) (hf : ∀ q ∈ ps, q.l.length ≤ 100000) :
    Calls Try.prog 42 #[.slice A n c] w (SX.Ret fun v w' => v = .int .i64 (totP (ps.map MpV.plain)) ∧ SX.St w [] w' []) := by
  have hs := SX.St.start w
  refine Z.enter Try.func42 rfl Try.ntmps42 rfl rfl ?_
  refine Z.seq ?_
  refine Z.region ?_
  refine Z.lb 1 rfl ?_
  refine Z.lnil ?_
  refine Z.only [0, 2] rfl ?_
  refine Z.nthen ?_
  refine Z.seq ?_
  refine Z.seq ?_
  refine Z.region ?_
  refine Z.lb 1 rfl ?_
  refine Z.l rfl rfl (by rfl) (Z.keepS hs) (Z.Yd.lenS rfl Try.underlying22) ?_
  refine Z.lb 1 rfl ?_
  refine Z.lnil ?_
  refine Z.only [2, 5, 6, 7] rfl ?_
  refine Z.nthen ?_
  refine Z.block ?_
  refine Z.loopk (ι := Nat) [5, 6] rfl (fun i => [(2, [], .int .i64 (totP ((ps.map MpV.plain).take i))), (7, [], .int .i64 (i : Int))]) (fun i wr => i ≤ n ∧ SX.St w [] wr []) (fun i => n - i) 0 (by refine ⟨?_, ?_, trivial⟩ <;> (first | rfl | (refine Z.lookv rfl ?_; simp; done) | (refine Z.lookv rfl ?_; simp; omega))) ⟨Nat.zero_le _, hs⟩ ?_
  clear hs
  rintro i w3 ⟨hi, hs⟩
  refine Z.only [2, 5, 6, 7] rfl ?_
  refine Z.seq ?_
  refine Z.region ?_
  refine Z.lb 1 rfl ?_
  refine Z.lnil ?_
  refine Z.only [2, 5, 6, 7, 8] rfl ?_
  refine Z.nthen ?_
  refine Z.seq ?_
  refine Z.cond rfl (fun hc2 => ?_) (fun hc2 => ?_)
  · first
      | (exfalso; simp at hc2 <;> omega)
      | (
        (try simp at hc2)
        obtain ⟨b, off, rfl, hb0, hx2⟩ := Z.Sl.some hx (by rw [fl_len mp_len]; omega)
        obtain ⟨q, hqi⟩ : ∃ q, ps[i]? = some q := ⟨_, List.getElem?_eq_getElem (by omega)⟩
        have htk := plain_take hqi
        have hone := mp_one q
        have hq1 := hf q (List.mem_of_getElem? hqi)
        have hq2 := extP_bd q.plain
        have e2 : q.plain.2 = q.l := rfl
        have hbd := totP_bd (ps := ps.take i) fun x hx => hf x (List.mem_of_mem_take hx)
        rw [List.map_take, List.length_take] at hbd
        have hmn : (((min i ps.length : Nat)) : Int) ≤ 1000 := by omega
        refine Z.skip ?_
        refine Z.nthen ?_
        refine Z.seq ?_
        refine Z.block ?_
        refine Z.seq ?_
        refine Z.region ?_
        refine Z.l rfl rfl (by rfl) (Z.keepS hs) (Z.Yd.elem rfl rfl Try.underlying22 Try.sizeOf47 (fun hG => ⟨(by first | omega | (have hG' := Z.gh rfl hG; simp at hG'; omega)), (by first | omega | (have hG' := Z.gh rfl hG; simp at hG'; omega))⟩)) ?_
        refine Z.l rfl rfl (by rfl) (Z.keepS hs) (Z.Yd.loadA _ rfl Try.isAgg47 (fun _ W hK j u hu => Z.cellXq (enc := MpV.cells) hx2.sx mp_len hqi hu W hK) (by exact Try.sizeOf47)) ?_
        refine Z.le rfl trivial ?_
        refine Z.ZO.alloc rfl rfl (by rfl) Try.zeroValue47 rfl hs ?_
        clear hs; intro g4 w4 hs
        refine Z.le rfl trivial ?_
        first | refine Z.ZO.storeA rfl rfl hs rfl rfl (by kernel_rfl) (by first | (simp [Value.oneCell']; done) | (refine Z.all_one ?_; assumption)) (by first | exact SX.at0 | exact SX.at1 | exact SX.at2 | exact SX.at3 | exact SX.at4 | exact SX.at5 | exact Z.at6 | exact Z.at7 | exact Z.at8 | exact Z.at9 | exact Z.at10 | exact Z.at11 | exact Z.at12) (by rfl) ?_ | refine Z.ZO.storeP rfl rfl hs rfl rfl (by kernel_rfl) (by first | (simp [Value.oneCell']; done) | (refine Z.all_one ?_; assumption)) (by first | exact SX.at0 | exact SX.at1 | exact SX.at2 | exact SX.at3 | exact SX.at4 | exact SX.at5 | exact Z.at6 | exact Z.at7 | exact Z.at8 | exact Z.at9 | exact Z.at10 | exact Z.at11 | exact Z.at12) (by first | decide | (simp; done) | (simp; omega)) ?_ | refine Z.ZO.storePR rfl rfl hs rfl rfl (by kernel_rfl) (by first | (simp [Value.oneCell']; done) | (refine Z.all_one ?_; assumption)) (by first | exact SX.at0 | exact SX.at1 | exact SX.at2 | exact SX.at3 | exact SX.at4 | exact SX.at5 | exact Z.at6 | exact Z.at7 | exact Z.at8 | exact Z.at9 | exact Z.at10 | exact Z.at11 | exact Z.at12) (by first | decide | (simp; done) | (simp; omega)) ?_
        clear hs; intro ws hs
        simp only [Nat.zero_add, Nat.add_zero, Nat.reduceAdd, Int.reduceToNat, Nat.reduceMul, List.set_cons_zero, List.set_cons_succ, List.setIfInBounds_toArray] at hs
        try simp only [Z.putL, Nat.zero_add] at hs
        refine Z.lnil ?_
        refine Z.only [2, 4, 5, 6, 7] rfl ?_
        refine Z.nthen ?_
        refine Z.drawL [SX.Ent.blk g4 47 q.cells.toArray] (fun _ => true) mixed hs ?_
        clear hs; intro wd4 hs
        refine Z.tb [0] (by kernel_rfl) rfl ⟨_, hs, by first | (simp; done) | exact fun e he => List.mem_append_right _ he⟩ rfl ?_
        refine Z.t 1 rfl rfl rfl (by rfl) (by kernel_rfl) ⟨_, hs, by first | (simp; done) | exact fun e he => List.mem_append_right _ he⟩ (Z.Yd.loadA _ rfl Try.isAgg47 (fun _ => Z.cellsB (cs := MpV.cells q) (by first | ((repeat (first | exact List.mem_cons_self | refine List.mem_cons_of_mem _ ?_ | refine List.mem_append_right _ ?_)); done) | fail)) (by exact Try.sizeOf47)) ?_
        refine Z.t 4 rfl rfl rfl (by rfl) (by kernel_rfl) ⟨_, hs, by first | (simp; done) | exact fun e he => List.mem_append_right _ he⟩ (Z.Yd.fieldA (m := 1) rfl (by kernel_rfl)) ?_
        refine Z.t 5 rfl rfl rfl (by rfl) (by kernel_rfl) ⟨_, hs, by first | (simp; done) | exact fun e he => List.mem_append_right _ he⟩ (Z.Yd.load rfl Try.isAgg26 (fun _ => Z.cellB (cs := q.cells.toArray) (by first | ((repeat (first | exact List.mem_cons_self | refine List.mem_cons_of_mem _ ?_ | refine List.mem_append_right _ ?_)); done) | fail) rfl)) ?_
        refine Z.t 6 rfl rfl rfl (by rfl) (by kernel_rfl) ⟨_, hs, by first | (simp; done) | exact fun e he => List.mem_append_right _ he⟩ (Z.Yd.lenS rfl Try.underlying26) ?_
        refine Z.tn 2 rfl rfl (by kernel_rfl) rfl trivial ?_
        refine Z.ZO.call rfl rfl (by rfl) rfl rfl Try.call35 rfl (mc_extra q _) ?_
        rintro v4_2 w4_2 ⟨rfl, hy⟩
        replace hs := hs.call hy
        clear hy
        try simp only [List.cons_append, List.nil_append, List.append_nil] at hs
        refine Z.tk (Dn := fun _ => true) (i := 2) (fun _ => ⟨_, hs, by first | (simp; done) | exact fun e he => List.mem_append_right _ he⟩) ?_
        refine Z.t 3 rfl rfl rfl (by rfl) (by kernel_rfl) ⟨_, hs, by first | (simp; done) | exact fun e he => List.mem_append_right _ he⟩ (Z.Yd.add rfl rfl (fun hG => Z.wi64 (by first | omega | (have hG' := Z.gh rfl hG; simp at hG'; omega)))) ?_
        refine Z.t 7 rfl rfl rfl (by rfl) (by kernel_rfl) ⟨_, hs, by first | (simp; done) | exact fun e he => List.mem_append_right _ he⟩ (Z.Yd.add rfl rfl (fun hG => Z.wi64 (by first | omega | (have hG' := Z.gh rfl hG; simp at hG'; omega)))) ?_
        refine Z.t 8 rfl rfl rfl (by rfl) (by kernel_rfl) ⟨_, hs, by first | (simp; done) | exact fun e he => List.mem_append_right _ he⟩ (Z.Yd.add rfl rfl (fun hG => Z.wi64 (by first | omega | (have hG' := Z.gh rfl hG; simp at hG'; omega)))) ?_
        refine Z.tb [9] (by kernel_rfl) rfl ⟨_, hs, by first | (simp; done) | exact fun e he => List.mem_append_right _ he⟩ rfl ?_
        refine Z.td (by rfl) (by kernel_rfl) ?_
        refine Z.only [2, 5, 6, 7] rfl ?_
        refine Z.nblock ?_
        refine Z.nthen ?_
        refine Z.region ?_
        refine Z.l rfl rfl (by rfl) (Z.keepS hs) (Z.Yd.add rfl rfl (fun hG => Z.wi64 (by first | omega | (have hG' := Z.gh rfl hG; simp at hG'; omega)))) ?_
        refine Z.lb 1 rfl ?_
        refine Z.lnil ?_
        refine Z.only [2, 5, 6, 7] rfl ?_
        refine Z.nthen ?_
        exact Z.again (i + 1) (by refine ⟨?_, ?_, ?_, ?_, trivial⟩ <;> first | rfl | (rw [htk, totP_snoc, e2]; rfl)) ⟨by omega, hs.sub (List.nil_sublist _)⟩ (by omega)
        )
  · first
      | (exfalso; simp at hc2 <;> omega)
      | (
        (try simp at hc2)
        refine Z.exit ?_
        refine Z.xthen ?_
        refine Z.xthen ?_
        refine Z.xblock ?_
        refine Z.nthen ?_
        refine Z.seq ?_
        refine Z.region ?_
        refine Z.lb 2 rfl ?_
        refine Z.lnil ?_
        refine Z.only [2] rfl ?_
        refine Z.nthen ?_
        refine Z.ret ?_
        -- ret#0
        refine Z.out1 (by exact ⟨rfl, trivial⟩) ?_
        obtain rfl : i = n := by omega
        exact ⟨_, rfl, by rw [List.take_of_length_le (by simp; omega)], hs⟩
        )
end Go.Proofs.Ytogjkgoiofngaaa

/- MAC PDUs: Need, Fit. -/
namespace Go.Proofs.Ytogjkgoiofngaaa
open Go.RowKit
set_option linter.unusedSimpArgs false
set_option linter.unusedVariables false
--newlaws

def lastP (r : List Prt) : Prt := r.getLastD (0, [])
def needP (r : List Prt) : Int := totP r - extP (lastP r)
def okN (r : List Prt) : Prop := r ≠ [] ∧ vldP false r = true
instance (r : List Prt) : Decidable (okN r) := by unfold okN; infer_instance
def needV (r : List Prt) : Int × Int := if okN r then (needP r, 0) else (0, 2)
def okFt (size : Int) (r : List Prt) : Prop := (1 ≤ size ∧ size ≤ 16384) ∧ vldP false r = true
instance (size : Int) (r : List Prt) : Decidable (okFt size r) := by unfold okFt; infer_instance
def fitV (size : Int) (r : List Prt) : Int × Int := if okFt size r then (max 0 (min 32767 (size - totP r - 1)), 0) else (0, 2)
theorem last_plain {ps : List MpV} {q : MpV} (h : ps[ps.length - 1]? = some q) : lastP (ps.map MpV.plain) = q.plain := by
  unfold lastP
  rw [List.getLastD_eq_getLast?, List.getLast?_map, List.getLast?_eq_getElem?, h]
  rfl
theorem mc_need (A : Option Addr) (n c : Nat) (ps : List MpV) (w : World) (hx : Sl w A (ps.flatMap MpV.cells)) (hl : ps.length = n) (hn : 1 ≤ n ∧ n ≤ 1000) (hf : ∀ q ∈ ps, q.l.length ≤ 100000) :
    Calls Try.prog 41 #[.slice A n c] w (SX.Ret fun v w' => v = .int .i64 (needP (ps.map MpV.plain)) ∧ SX.St w [] w' []) := by
  have hs := SX.St.start w
  obtain ⟨b, off, rfl, hb0, hx2⟩ := Z.Sl.some hx (by rw [fl_len mp_len]; omega)
  obtain ⟨q, hqi⟩ : ∃ q, ps[n - 1]? = some q := ⟨_, List.getElem?_eq_getElem (by omega)⟩
  have hlast := last_plain (ps := ps) (q := q) (by rw [hl]; exact hqi)
  have hbd := totP_bd hf
  have hex := extP_bd q.plain
  have e1 : ((n : Int) - 1) = ((n - 1 : Nat) : Int) := by omega
  refine Z.enter Try.func41 rfl Try.ntmps41 rfl rfl ?_
  refine Z.seq ?_
  refine Z.region ?_
  refine Z.lb 1 rfl ?_
  refine Z.lnil ?_
  refine Z.only [0] rfl ?_
  refine Z.nthen ?_
  refine Z.seq ?_
  refine Z.drawK (fun _ => true) mixed hs ?_
  clear hs; intro wd1 hs
  refine Z.tb [0, 2, 3] (by kernel_rfl) rfl ⟨_, hs, by first | (simp; done) | exact fun e he => List.mem_append_right _ he⟩ rfl ?_
  refine Z.t 4 rfl rfl rfl (by rfl) (by kernel_rfl) ⟨_, hs, by first | (simp; done) | exact fun e he => List.mem_append_right _ he⟩ (Z.Yd.lenS rfl Try.underlying22) ?_
  refine Z.t 5 rfl rfl rfl (by rfl) (by kernel_rfl) ⟨_, hs, by first | (simp; done) | exact fun e he => List.mem_append_right _ he⟩ (Z.Yd.sub rfl rfl (fun hG => Z.wi64 (by first | omega | (have hG' := Z.gh rfl hG; simp at hG'; omega)))) ?_
  refine Z.t 6 rfl rfl rfl (by rfl) (by kernel_rfl) ⟨_, hs, by first | (simp; done) | exact fun e he => List.mem_append_right _ he⟩ (Z.Yd.elem rfl rfl Try.underlying22 Try.sizeOf47 (fun hG => ⟨(by first | omega | (have hG' := Z.gh rfl hG; simp at hG'; omega)), (by first | omega | (have hG' := Z.gh rfl hG; simp at hG'; omega))⟩)) ?_
  refine Z.t 7 rfl rfl rfl (by rfl) (by kernel_rfl) ⟨_, hs, by first | (simp; done) | exact fun e he => List.mem_append_right _ he⟩ (Z.Yd.loadA _ rfl Try.isAgg47 (fun _ W hK j u hu => by rw [e1] ; exact Z.cellXq (enc := MpV.cells) hx2.sx mp_len hqi hu W hK) (by exact Try.sizeOf47)) ?_
  refine Z.tn 1 rfl rfl (by kernel_rfl) rfl trivial ?_
  refine Z.ZO.call rfl rfl (by rfl) rfl rfl Try.call42 rfl (mc_total _ n c ps _ (hx.st hs) hl (by omega) hf) ?_
  rintro v1_1 w1_1 ⟨rfl, hy⟩
  replace hs := hs.call hy
  clear hy
  try simp only [List.cons_append, List.nil_append, List.append_nil] at hs
  refine Z.tk (Dn := fun _ => true) (i := 1) (fun _ => ⟨_, hs, by first | (simp; done) | exact fun e he => List.mem_append_right _ he⟩) ?_
  refine Z.tn 8 rfl rfl (by kernel_rfl) rfl trivial ?_
  refine Z.ZO.call rfl rfl (by rfl) rfl rfl Try.call35 rfl (mc_extra q _) ?_
  rintro v1_8 w1_8 ⟨rfl, hy⟩
  replace hs := hs.call hy
  clear hy
  try simp only [List.cons_append, List.nil_append, List.append_nil] at hs
  refine Z.tk (Dn := fun _ => true) (i := 8) (fun _ => ⟨_, hs, by first | (simp; done) | exact fun e he => List.mem_append_right _ he⟩) ?_
  refine Z.t 9 rfl rfl rfl (by rfl) (by kernel_rfl) ⟨_, hs, by first | (simp; done) | exact fun e he => List.mem_append_right _ he⟩ (Z.Yd.sub rfl rfl (fun hG => Z.wi64 (by first | omega | (have hG' := Z.gh rfl hG; simp at hG'; omega)))) ?_
  refine Z.tb [10] (by kernel_rfl) rfl ⟨_, hs, by first | (simp; done) | exact fun e he => List.mem_append_right _ he⟩ rfl ?_
  refine Z.td (by rfl) (by kernel_rfl) ?_
  refine Z.only [2] rfl ?_
  refine Z.nthen ?_
  refine Z.ret ?_
  -- ret#0
  refine Z.out1 (by exact ⟨rfl, trivial⟩) ?_
  exact ⟨_, rfl, by unfold needP; rw [hlast], hs⟩
theorem mc_Need (A : Option Addr) (n c : Nat) (ps : List MpV) (w : World) (hx : Sl w A (ps.flatMap MpV.cells)) (hl : ps.length = n) (hn : n ≤ 1000) (hf : ∀ q ∈ ps, q.l.length ≤ 100000) :
    Calls Try.prog 14 #[.slice A n c] w (SX.Ret fun v w' => v = .tuple #[.int .i64 (needV (ps.map MpV.plain)).1, .int .i64 (needV (ps.map MpV.plain)).2] ∧ SX.St w [] w' []) := by
  have hs := SX.St.start w
  have hne : ps.map MpV.plain ≠ [] ↔ n ≠ 0 := by rw [← hl]; simp
  refine Z.enter Try.func14 rfl Try.ntmps14 rfl rfl ?_
  refine Z.seq ?_
  refine Z.region ?_
  refine Z.lb 2 rfl ?_
  refine Z.lnil ?_
  refine Z.only [0] rfl ?_
  refine Z.nthen ?_
  refine Z.seq ?_
  refine Z.seq ?_
  refine Z.region ?_
  refine Z.lb 1 rfl ?_
  refine Z.l rfl rfl (by rfl) (Z.keepS hs) (Z.Yd.lenS rfl Try.underlying22) ?_
  refine Z.lb 2 rfl ?_
  refine Z.split (s := 7) rfl (fun hsp7 => ?_) (fun hsp7 => ?_)
  · first
      | (exfalso; simp at hsp7 <;> omega)
      | (
        refine Z.yes (s := 7) (b := true) rfl hsp7 rfl ?_
        (try simp at hsp7)
        refine Z.ls rfl rfl rfl (by rfl) ?_
        refine Z.ls rfl rfl rfl (by rfl) ?_
        refine Z.ls rfl rfl rfl (by rfl) ?_
        refine Z.l rfl rfl (by rfl) (Z.keepS hs) (Z.Yd.pickT rfl rfl) ?_
        refine Z.lnil ?_
        refine Z.only [0, 11] rfl ?_
        refine Z.nthen ?_
        refine Z.cond rfl (fun hc1 => ?_) (fun hc1 => ?_)
        · first
            | (exfalso; simp at hc1 <;> omega)
            | (
              (try simp at hc1)
              have hno : ¬ okN (ps.map MpV.plain) := by rintro ⟨h1, h2⟩; rw [hne] at h1; first | omega | simp_all
              rw [show needV (ps.map MpV.plain) = (0, 2) from if_neg hno]
              refine Z.seq ?_
              refine Z.region ?_
              refine Z.lb 2 rfl ?_
              refine Z.lnil ?_
              refine Z.only [2, 3] rfl ?_
              refine Z.nthen ?_
              refine Z.ret ?_
              repeat (first | refine Z.rthen ?_ | refine Z.rblock ?_ | refine Z.rscope ?_)
              -- ret#0
              refine Z.out2 (by exact ⟨rfl, rfl, trivial⟩) ?_
              first | exact ⟨_, rfl, rfl, hs⟩ | exact ⟨_, rfl, rfl, hs.sub (List.nil_sublist _)⟩
              )
        · first
            | (exfalso; simp at hc1 <;> omega)
            | (
              (try simp at hc1)
              have hok : okN (ps.map MpV.plain) := ⟨by rw [hne]; omega, by simp_all⟩
              rw [show needV (ps.map MpV.plain) = (needP (ps.map MpV.plain), 0) from if_pos hok]
              refine Z.skip ?_
              refine Z.nthen ?_
              refine Z.seq ?_
              refine Z.region ?_
              refine Z.lb 1 rfl ?_
              refine Z.le rfl trivial ?_
              refine Z.ZO.call rfl rfl (by rfl) rfl rfl Try.call41 rfl (mc_need A n c ps _ (hx.st hs) hl (by omega) hf) ?_
              rintro v3_1 w3_1 ⟨rfl, hy⟩
              replace hs := hs.call hy
              clear hy
              try simp only [List.cons_append, List.nil_append, List.append_nil] at hs
              refine Z.lb 2 rfl ?_
              refine Z.lnil ?_
              refine Z.only [2, 3] rfl ?_
              refine Z.nthen ?_
              refine Z.ret ?_
              -- ret#1
              refine Z.out2 (by exact ⟨rfl, rfl, trivial⟩) ?_
              first | exact ⟨_, rfl, rfl, hs⟩ | exact ⟨_, rfl, rfl, hs.sub (List.nil_sublist _)⟩
              )
        )
  · first
      | (exfalso; simp at hsp7 <;> omega)
      | (
        refine Z.yes (s := 7) (b := false) rfl hsp7 rfl ?_
        (try simp at hsp7)
        refine Z.lb 1 rfl ?_
        refine Z.yes (s := 7) (b := false) rfl rfl rfl ?_
        refine Z.le rfl (by exact ⟨rfl, trivial⟩) ?_
        refine Z.ZO.call rfl rfl (by rfl) rfl rfl Try.call40 rfl (mc_valid A n c ps _ hx hl (by omega)) ?_
        rintro v1_5 w1_5 ⟨rfl, hy⟩
        replace hs := hs.call hy
        clear hy
        try simp only [List.cons_append, List.nil_append, List.append_nil] at hs
        refine Z.lb 1 rfl ?_
        refine Z.yes (s := 7) (b := false) rfl rfl rfl ?_
        refine Z.l rfl rfl (by rfl) (Z.keepS hs) (Z.Yd.pickF rfl rfl) ?_
        refine Z.lnil ?_
        refine Z.only [0, 11] rfl ?_
        refine Z.nthen ?_
        refine Z.cond rfl (fun hc1 => ?_) (fun hc1 => ?_)
        · first
            | (exfalso; simp at hc1 <;> omega)
            | (
              (try simp at hc1)
              have hno : ¬ okN (ps.map MpV.plain) := by rintro ⟨h1, h2⟩; rw [hne] at h1; first | omega | simp_all
              rw [show needV (ps.map MpV.plain) = (0, 2) from if_neg hno]
              refine Z.seq ?_
              refine Z.region ?_
              refine Z.lb 2 rfl ?_
              refine Z.lnil ?_
              refine Z.only [2, 3] rfl ?_
              refine Z.nthen ?_
              refine Z.ret ?_
              repeat (first | refine Z.rthen ?_ | refine Z.rblock ?_ | refine Z.rscope ?_)
              -- ret#2
              refine Z.out2 (by exact ⟨rfl, rfl, trivial⟩) ?_
              first | exact ⟨_, rfl, rfl, hs⟩ | exact ⟨_, rfl, rfl, hs.sub (List.nil_sublist _)⟩
              )
        · first
            | (exfalso; simp at hc1 <;> omega)
            | (
              (try simp at hc1)
              have hok : okN (ps.map MpV.plain) := ⟨by rw [hne]; omega, by simp_all⟩
              rw [show needV (ps.map MpV.plain) = (needP (ps.map MpV.plain), 0) from if_pos hok]
              refine Z.skip ?_
              refine Z.nthen ?_
              refine Z.seq ?_
              refine Z.region ?_
              refine Z.lb 1 rfl ?_
              refine Z.le rfl trivial ?_
              refine Z.ZO.call rfl rfl (by rfl) rfl rfl Try.call41 rfl (mc_need A n c ps _ (hx.st hs) hl (by omega) hf) ?_
              rintro v3_1 w3_1 ⟨rfl, hy⟩
              replace hs := hs.call hy
              clear hy
              try simp only [List.cons_append, List.nil_append, List.append_nil] at hs
              refine Z.lb 2 rfl ?_
              refine Z.lnil ?_
              refine Z.only [2, 3] rfl ?_
              refine Z.nthen ?_
              refine Z.ret ?_
              -- ret#3
              refine Z.out2 (by exact ⟨rfl, rfl, trivial⟩) ?_
              first | exact ⟨_, rfl, rfl, hs⟩ | exact ⟨_, rfl, rfl, hs.sub (List.nil_sublist _)⟩
              )
        )
theorem mc_Fit (size : Int) (A : Option Addr) (n c : Nat) (ps : List MpV) (w : World) (hx : Sl w A (ps.flatMap MpV.cells)) (hl : ps.length = n) (hn : n ≤ 1000) (hf : ∀ q ∈ ps, q.l.length ≤ 100000) :
    Calls Try.prog 19 #[.int .i64 size, .slice A n c] w (SX.Ret fun v w' => v = .tuple #[.int .i64 (fitV size (ps.map MpV.plain)).1, .int .i64 (fitV size (ps.map MpV.plain)).2] ∧ SX.St w [] w' []) := by
  have hs := SX.St.start w
  have hbd := totP_bd hf
  refine Z.enter Try.func19 rfl Try.ntmps19 rfl rfl ?_
  refine Z.seq ?_
  refine Z.region ?_
  refine Z.lb 2 rfl ?_
  refine Z.lnil ?_
  refine Z.only [0, 1] rfl ?_
  refine Z.nthen ?_
  refine Z.seq ?_
  refine Z.seq ?_
  refine Z.region ?_
  refine Z.lb 7 rfl ?_
  refine Z.split (s := 12) rfl (fun hsp12 => ?_) (fun hsp12 => ?_)
  · first
      | (exfalso; simp at hsp12 <;> omega)
      | (
        refine Z.yes (s := 12) (b := true) rfl hsp12 rfl ?_
        (try simp at hsp12)
        refine Z.ls rfl rfl rfl (by rfl) ?_
        refine Z.ls rfl rfl rfl (by rfl) ?_
        refine Z.ls rfl rfl rfl (by rfl) ?_
        refine Z.l rfl rfl (by rfl) (Z.keepS hs) (Z.Yd.pickT rfl rfl) ?_
        refine Z.lnil ?_
        refine Z.only [0, 1, 16] rfl ?_
        refine Z.nthen ?_
        refine Z.cond rfl (fun hc1 => ?_) (fun hc1 => ?_)
        · first
            | (exfalso; simp at hc1 <;> omega)
            | (
              (try simp at hc1)
              have hno : ¬ okFt size (ps.map MpV.plain) := by rintro ⟨h1, h2⟩; first | omega | simp_all
              rw [show fitV size (ps.map MpV.plain) = (0, 2) from if_neg hno]
              refine Z.seq ?_
              refine Z.region ?_
              refine Z.lb 2 rfl ?_
              refine Z.lnil ?_
              refine Z.only [4, 5] rfl ?_
              refine Z.nthen ?_
              refine Z.ret ?_
              repeat (first | refine Z.rthen ?_ | refine Z.rblock ?_ | refine Z.rscope ?_)
              -- ret#0
              refine Z.out2 (by exact ⟨rfl, rfl, trivial⟩) ?_
              first | exact ⟨_, rfl, rfl, hs⟩ | exact ⟨_, rfl, rfl, hs.sub (List.nil_sublist _)⟩
              )
        · first
            | (exfalso; simp at hc1 <;> omega)
            | (
              (try simp at hc1)
              have hok : okFt size (ps.map MpV.plain) := ⟨by omega, by simp_all⟩
              rw [show fitV size (ps.map MpV.plain) = (_, 0) from if_pos hok]
              refine Z.skip ?_
              refine Z.nthen ?_
              refine Z.seq ?_
              refine Z.region ?_
              refine Z.lb 2 rfl ?_
              refine Z.le rfl trivial ?_
              refine Z.ZO.call rfl rfl (by rfl) rfl rfl Try.call42 rfl (mc_total A n c ps _ (hx.st hs) hl (by omega) hf) ?_
              rintro v3_2 w3_2 ⟨rfl, hy⟩
              replace hs := hs.call hy
              clear hy
              try simp only [List.cons_append, List.nil_append, List.append_nil] at hs
              refine Z.l rfl rfl (by rfl) (Z.keepS hs) (Z.Yd.sub rfl rfl (fun hG => Z.wi64 (by first | omega | (have hG' := Z.gh rfl hG; simp at hG'; omega)))) ?_
              refine Z.l rfl rfl (by rfl) (Z.keepS hs) (Z.Yd.sub rfl rfl (fun hG => Z.wi64 (by first | omega | (have hG' := Z.gh rfl hG; simp at hG'; omega)))) ?_
              refine Z.l rfl rfl (by rfl) (Z.keepS hs) (Z.Yd.min rfl rfl) ?_
              refine Z.l rfl rfl (by rfl) (Z.keepS hs) (Z.Yd.max rfl rfl) ?_
              refine Z.lb 2 rfl ?_
              refine Z.lnil ?_
              refine Z.only [4, 5] rfl ?_
              refine Z.nthen ?_
              refine Z.ret ?_
              -- ret#1
              refine Z.out2 (by exact ⟨rfl, rfl, trivial⟩) ?_
              first | exact ⟨_, rfl, rfl, hs⟩ | exact ⟨_, rfl, rfl, hs.sub (List.nil_sublist _)⟩
              )
        )
  · first
      | (exfalso; simp at hsp12 <;> omega)
      | (
        refine Z.yes (s := 12) (b := false) rfl hsp12 rfl ?_
        (try simp at hsp12)
        refine Z.lb 1 rfl ?_
        refine Z.yes (s := 12) (b := false) rfl rfl rfl ?_
        refine Z.le rfl (by exact ⟨rfl, trivial⟩) ?_
        refine Z.ZO.call rfl rfl (by rfl) rfl rfl Try.call40 rfl (mc_valid A n c ps _ hx hl (by omega)) ?_
        rintro v1_8 w1_8 ⟨rfl, hy⟩
        replace hs := hs.call hy
        clear hy
        try simp only [List.cons_append, List.nil_append, List.append_nil] at hs
        refine Z.lb 1 rfl ?_
        refine Z.yes (s := 12) (b := false) rfl rfl rfl ?_
        refine Z.l rfl rfl (by rfl) (Z.keepS hs) (Z.Yd.pickF rfl rfl) ?_
        refine Z.lnil ?_
        refine Z.only [0, 1, 16] rfl ?_
        refine Z.nthen ?_
        refine Z.cond rfl (fun hc1 => ?_) (fun hc1 => ?_)
        · first
            | (exfalso; simp at hc1 <;> omega)
            | (
              (try simp at hc1)
              have hno : ¬ okFt size (ps.map MpV.plain) := by rintro ⟨h1, h2⟩; first | omega | simp_all
              rw [show fitV size (ps.map MpV.plain) = (0, 2) from if_neg hno]
              refine Z.seq ?_
              refine Z.region ?_
              refine Z.lb 2 rfl ?_
              refine Z.lnil ?_
              refine Z.only [4, 5] rfl ?_
              refine Z.nthen ?_
              refine Z.ret ?_
              repeat (first | refine Z.rthen ?_ | refine Z.rblock ?_ | refine Z.rscope ?_)
              -- ret#2
              refine Z.out2 (by exact ⟨rfl, rfl, trivial⟩) ?_
              first | exact ⟨_, rfl, rfl, hs⟩ | exact ⟨_, rfl, rfl, hs.sub (List.nil_sublist _)⟩
              )
        · first
            | (exfalso; simp at hc1 <;> omega)
            | (
              (try simp at hc1)
              have hok : okFt size (ps.map MpV.plain) := ⟨by omega, by simp_all⟩
              rw [show fitV size (ps.map MpV.plain) = (_, 0) from if_pos hok]
              refine Z.skip ?_
              refine Z.nthen ?_
              refine Z.seq ?_
              refine Z.region ?_
              refine Z.lb 2 rfl ?_
              refine Z.le rfl trivial ?_
              refine Z.ZO.call rfl rfl (by rfl) rfl rfl Try.call42 rfl (mc_total A n c ps _ (hx.st hs) hl (by omega) hf) ?_
              rintro v3_2 w3_2 ⟨rfl, hy⟩
              replace hs := hs.call hy
              clear hy
              try simp only [List.cons_append, List.nil_append, List.append_nil] at hs
              refine Z.l rfl rfl (by rfl) (Z.keepS hs) (Z.Yd.sub rfl rfl (fun hG => Z.wi64 (by first | omega | (have hG' := Z.gh rfl hG; simp at hG'; omega)))) ?_
              refine Z.l rfl rfl (by rfl) (Z.keepS hs) (Z.Yd.sub rfl rfl (fun hG => Z.wi64 (by first | omega | (have hG' := Z.gh rfl hG; simp at hG'; omega)))) ?_
              refine Z.l rfl rfl (by rfl) (Z.keepS hs) (Z.Yd.min rfl rfl) ?_
              refine Z.l rfl rfl (by rfl) (Z.keepS hs) (Z.Yd.max rfl rfl) ?_
              refine Z.lb 2 rfl ?_
              refine Z.lnil ?_
              refine Z.only [4, 5] rfl ?_
              refine Z.nthen ?_
              refine Z.ret ?_
              -- ret#3
              refine Z.out2 (by exact ⟨rfl, rfl, trivial⟩) ?_
              first | exact ⟨_, rfl, rfl, hs⟩ | exact ⟨_, rfl, rfl, hs.sub (List.nil_sublist _)⟩
              )
        )
end Go.Proofs.Ytogjkgoiofngaaa

/- MAC PDUs: the document's Valid, join. -/
namespace Go.Proofs.Ytogjkgoiofngaaa
open Go.RowKit
set_option linter.unusedSimpArgs false
set_option linter.unusedVariables false
--newlaws

/-- the length field -/
def lenF (n : Nat) : List Int := if n ≤ 127 then [(n : Int)] else [128 + (n : Int) / 256, (n : Int) % 256]
theorem lenF_bd {n : Nat} (h : n ≤ 32767) : (∀ x ∈ lenF n, 0 ≤ x ∧ x < 256) ∧ (lenF n).length ≤ 2 := by
  unfold lenF
  split
  · refine ⟨fun x hx => ?_, by simp⟩
    obtain rfl : x = n := by simpa using hx
    omega
  · refine ⟨fun x hx => ?_, by simp⟩
    simp at hx
    rcases hx with rfl | rfl <;> omega
/-- the subheaders; whether padding follows -/
def hdsR : List Prt → Bool → List Int
  | [], _ => []
  | p :: r, a => (if r.isEmpty && !a then [p.1] else (p.1 + 32) :: (if sduB p.1 then lenF p.2.length else [])) ++ hdsR r a
def datR (r : List Prt) : List Int := r.flatMap (·.2)
def joinB (r : List Prt) (front : Nat) (after : Int) : List Int :=
  List.replicate front 63 ++ hdsR r (decide (0 ≤ after)) ++ (if 0 ≤ after then [31] else []) ++ (datR r ++ if 0 ≤ after then List.replicate after.toNat 0 else [])
/-- what is known of a valid list -/
theorem vldP_mem : ∀ {r : List Prt} {d : Bool}, vldP d r = true → ∀ p ∈ r, (1 ≤ p.1 ∧ p.1 ≤ 30) ∧ p.2.length ≤ 32767
  | [], _, _, p, hp => by cases hp
  | q :: r, d, h, p, hp => by
    rw [vldP_cons] at h
    rcases List.mem_cons.1 hp with rfl | hp
    · by_cases hs : sduB p.1
      · rw [if_pos hs] at h
        simp at h
        unfold sduB at hs
        omega
      · rw [if_neg hs] at h
        simp at h
        have h2 := h.1
        have h3 := ctlN_bd p.1
        refine ⟨?_, by omega⟩
        unfold ctlN at h2
        split at h2
        · omega
        · split at h2
          · omega
          · split at h2
            · omega
            · split at h2
              · omega
              · simp at h2
    · by_cases hs : sduB q.1
      · rw [if_pos hs] at h
        simp at h
        exact vldP_mem h.2 p hp
      · rw [if_neg hs] at h
        simp at h
        exact vldP_mem h.2 p hp
end Go.Proofs.Ytogjkgoiofngaaa

/- Zeros appended to a row of ours: append(s, make([]T, n)...). -/
namespace Go.Proofs.Ytogjkgoiofngaaa
open Go.RowKit
set_option linter.unusedVariables false
set_option linter.unusedSimpArgs false
theorem zeroCells_one (z : Value) (n : Nat) : (Builtin.zeroCells #[z] n) = (List.replicate n z).toArray := by
  apply Array.ext'
  apply List.ext_getElem?
  intro i
  by_cases h : i < n
  · simp [Builtin.zeroCells, List.getElem?_replicate, h, Nat.mod_one]
  · rw [List.getElem?_eq_none (by simp [Builtin.zeroCells]; omega), List.getElem?_eq_none (by simp; omega)]
theorem wrap_nat {m : Nat} (h : m ≤ 140737488355328) : IntKind.i64.wrap (m : Int) = (m : Int) := Z.wi64 (by omega)
theorem run_appendZ {P : Program} (w : World) (t ti ty e : TypeId) (i : TypeInfo) (z : Value) (k kd : IntKind) (ht : P.underlying t = some (.slice e)) (hti : P.underlying ti = some (.int kd)) (hi : P.info? e = some i) (hz : i.zero = some z)
    (hsize : i.size = 1) (hby : i.bytes = 1) (hzs : z.cells = #[z]) (h1 : z.oneCell' = true) (v : Value) (n : Nat) (xs : List Value) (hown : w.ownsRow 0 e 1 v n xs) (m : Nat) (hm : n + m ≤ 140737488355328) :
    ∃ v' w', (Builtin.append_ #[t, ti] ty #[v, .int k (m : Int)]).run P w = .ok v' w' ∧ w'.ownsRow 0 e 1 v' (n + m) (xs ++ List.replicate m z) ∧ w.grownBy w' v.ownBlock ∧ (v'.ownBlock = v.ownBlock ∨ v'.ownBlock = some w.heap.size) := by
  have hw := wrap_nat (m := m) (by omega)
  have h48 : ¬ (281474976710656 < (m : Int)) := by omega
  have hw0 : IntKind.i64.wrap 0 = 0 := rfl
  have hneg : ¬ ((m : Int) < 0) := by omega
  have hmx : n + m ≤ maxLen := by unfold maxLen; omega
  have hlen : (xs ++ List.replicate m z).length = (n + m) * 1 := by rw [List.length_append, hown.1, List.length_replicate]; omega
  have grown : ∀ (old : Nat), old < n + m → ∀ (row : Option Nat),
      (w.drew.alloc (.cells (xs.toArray ++ (List.replicate m z).toArray ++ Builtin.zeroCells z.cells (grownCap w (n + m) old e - (n + m))) e)).ownsRow 0 e 1
        (.slice (some ⟨w.heap.size, 0, none⟩) (n + m) (grownCap w (n + m) old e)) (n + m) (xs ++ List.replicate m z) ∧
      w.grownBy (w.drew.alloc (.cells (xs.toArray ++ (List.replicate m z).toArray ++ Builtin.zeroCells z.cells (grownCap w (n + m) old e - (n + m))) e)) row := by
    intro old ho row
    have hge := grownCap_ge w (n + m) old e
    have hcm : grownCap w (n + m) old e ≤ maxLen := grownCap_le_maxLen w (n + m) old e hmx
    have hx := hown.1
    refine ⟨⟨hlen, .inr ⟨w.heap.size, _, _, rfl, Nat.zero_le _, heap_alloc_new w.drew _, hge, hcm, ?_, ?_⟩⟩, ⟨rfl, rfl, rfl, by simp, fun k hk _ => heap_alloc_old w.drew _ hk⟩⟩
    · simp only [Array.size_append, List.size_toArray, size_zeroCells, hzs, List.length_replicate, List.length_cons, List.length_nil]
      omega
    · simp only [Array.toList_append, List.append_assoc]
      rw [← List.append_assoc, ← hlen]
      exact List.take_left
  rcases hown.2 with ⟨rfl, rfl⟩ | ⟨g, cap, cur, rfl, hbg, hg, hnc, hcm, hcs, htake⟩
  · have hx : xs = [] := List.eq_nil_of_length_eq_zero (by simpa using hown.1)
    subst hx
    by_cases hm0 : m = 0
    · subst hm0
      refine ⟨.slice none 0 0, w, ?_, by simpa using World.ownsRow_nil w 0 e 1, ⟨rfl, rfl, rfl, Nat.le_refl _, fun _ _ _ => rfl⟩, Or.inl rfl⟩
      simp [Builtin.append_, run_underlying ht, run_underlying hti, sizeOf, typeInfo, hi, asIntOf, asInt, hw, hw0, hby, hsize]
    · have hgr := grown 0 (by omega) (Value.ownBlock (.slice none 0 0))
      simp only [Nat.zero_add, List.nil_append, Array.empty_append] at hgr ⊢
      refine ⟨_, _, ?_, hgr.1, hgr.2, Or.inr rfl⟩
      have h63' : ¬ (9223372036854775807 < (m : Int)) := by omega
      have h48' : ¬ (281474976710656 < Builtin.nextslicecap m 0) := by rw [nextslicecap_zero (by omega)]; omega
      simp [Builtin.append_, run_underlying ht, run_underlying hti, sizeOf, typeInfo, zeroValue, hi, hz, asIntOf, asInt, hw, hw0, hby, hsize, hm0, h48, hneg, h63', h48', Question.forced, run_firstCells_none, newRow, grownCap, hzs, zeroCells_one]
  · by_cases hroom : n + m ≤ cap
    · have hfit : n * 1 + (List.replicate m z).length ≤ cur.size := by rw [List.length_replicate, hcs]; omega
      have hst := run_storeCells_at P g (n * 1) e (List.replicate m z) 0 cur w hg (by simpa using hfit) (fun u hu => by rw [(List.mem_replicate.1 hu).2]; exact h1)
      have hr : (Builtin.append_ #[t, ti] ty #[.slice (some ⟨g, 0, none⟩) n cap, .int k (m : Int)]).run P w = .ok (.slice (some ⟨g, 0, none⟩) (n + m) cap) (w.setRow g (cur.toList.take (n * 1) ++ List.replicate m z ++ cur.toList.drop (n * 1 + (List.replicate m z).length)).toArray) := by
        simp only [Nat.add_zero, Nat.mul_one, List.length_replicate] at hst
        by_cases hm0 : m = 0
        · subst hm0
          simp only [List.replicate_zero] at hst ⊢
          simp [Builtin.append_, run_underlying ht, run_underlying hti, sizeOf, typeInfo, hi, asIntOf, asInt, hw, hw0, hby, hsize, hroom, hnc, Addr.add_lit, hst]
        · simp [Builtin.append_, run_underlying ht, run_underlying hti, sizeOf, typeInfo, zeroValue, hi, hz, asIntOf, asInt, hw, hw0, hby, hsize, hm0, h48, hneg, hroom, Addr.add_lit, hzs, zeroCells_one, hst]
      refine ⟨_, _, hr, ⟨hlen, .inr ⟨g, cap, _, rfl, hbg, setRow_heap w g cur _ e _ hg, hroom, hcm, ?_, ?_⟩⟩, ⟨rfl, rfl, rfl, by simp, fun k _ hk => setRow_other w g k _ (fun e => hk (by simp [Value.ownBlock, e]))⟩, Or.inl rfl⟩
      · simp only [List.size_toArray, List.length_append, List.length_take, List.length_drop, Array.length_toList]
        omega
      · rw [htake, ← hlen]
        exact List.take_left
    · have holds : ∀ j u, xs[j]? = some u → w.cell? ((⟨g, 0, none⟩ : Addr).add j) = some u := hown.cells (g := g) rfl
      have hfo := run_firstCells_some (P := P) w.drew 1 n ⟨g, 0, none⟩ n cap xs hown.1 (by simpa using holds)
      have hgr := grown cap (by omega) (Value.ownBlock (.slice (some ⟨g, 0, none⟩) n cap))
      refine ⟨_, _, ?_, hgr.1, hgr.2, Or.inr rfl⟩
      have hn : ¬ (n + m ≤ cap) := hroom
      have h63' : ¬ (9223372036854775807 < ((n : Int) + (m : Int))) := by omega
      have h48' : ¬ (281474976710656 < Builtin.nextslicecap (n + m) cap) := by
        have := growslice_fits (need := n + m) (old := cap) (bytes := 1) (by omega) (by omega)
        omega
      have hm0 : ¬ m = 0 := by omega
      simp [Builtin.append_, run_underlying ht, run_underlying hti, sizeOf, typeInfo, zeroValue, hi, hz, asIntOf, asInt, hw, hw0, hby, hsize, hm0, h48, hneg, hn, h63', h48', Question.forced, hfo, newRow, grownCap, hzs, zeroCells_one]
      try (congr 2; apply Array.ext'; simp [List.append_assoc])
namespace Z
variable {N : Nat} {E E' : Env} {D : List Deferred} {a : Act} {G : Guards} {F : Fence} {n : Nat} {P : Program} {S : World → Prop} {ops : Array Oper} {o : Oper} {v : Value}
variable {K : Act → World → Prop} {Q : Exit → Act → World → Prop} {w w' w0 : World} {M : List Nat} {L : List SX.Ent} {x : Operand} {d : Nat} {T' : TypeId}
/-- append(s, make([]T, m)...) -/
theorem ZO.appendZ [Wide F] {s z : Operand} {t ti : TypeId} {kk m j : Nat} {k kd : IntKind} {c : Int} {xs : List Value} {i0 : TypeInfo} {zv : Value}
    (ho : o.op = .call { callee := .builtin .append, args := #[s, z], argTypes := #[t, ti] }) (hd : o.dst = some d) (hc : chk N d E [] = true) (hs : SX.St w0 M w L)
    (ht : P.underlying t = some (.slice T')) (hti : P.underlying ti = some (.int kd)) (hi : P.info? T' = some i0) (hz : i0.zero = some zv) (hsize : i0.size = 1) (hby : i0.bytes = 1) (hzs : zv.cells = #[zv]) (h1 : zv.oneCell' = true)
    (hv : ev E [] s = some v) (hx : ev E [] z = some (.int k c)) (hj : L[j]? = some (SX.Ent.row v T' 1 kk xs)) (hcm : c = (m : Int)) (hbytes : kk + m ≤ 140737488355328)
    (h : ∀ v' w', SX.St w0 M w' (L.set j (SX.Ent.row v' T' 1 (kk + m) (xs ++ List.replicate m zv))) → Z N ((d, [], v') :: E) D K w') : ZO F n P N E D o K Q w := by
  subst hcm
  intro a ha
  obtain ⟨c1, c2, c3⟩ := chk_spec hc
  have hr : w.ownsRow 0 T' 1 v kk xs := hs.get hj
  obtain ⟨v', w', hrun, h2, h3, h5⟩ := run_appendZ (P := P) w t ti o.type T' i0 zv k kd ht hti hi hz hsize hby hzs h1 v kk xs hr m hbytes
  refine ⟨fun f _ => Wide.fn f, ?_⟩
  rw [Oper.semAt_plain F _ _ (by intro c hc; rw [ho] at hc; cases hc)]
  simp only [execOp, ho, resolve, invoke, builtin, Sem.run_bind, Sem.run_pure, Result.andThen_ok, List.map_toArray, List.map_cons, List.map_nil, ev0 ha hv, ev0 ha hx, hrun]
  have hst : SX.St w0 M w' (L.set j (SX.Ent.row v' T' 1 (kk + m) (xs ++ List.replicate m zv))) := SX.St.back hj ((hs.front hj).step h3.os h3.tape h3.output h3.size (fun b hb hne => h3.block b hb (fun e => hne (by simp [SX.Ent.row, ← e])))
    (by cases h : v'.ownBlock <;> simp [SX.Ent.row, h]) (fun b hb => by
      have hb' : v'.ownBlock = some b := by
        cases h : v'.ownBlock with
        | none => simp [SX.Ent.row, h] at hb
        | some q => simp [SX.Ent.row, h] at hb; rw [hb]
      rcases h5 with h5 | h5
      · left
        rw [h5] at hb'
        simp [SX.Ent.row, hb']
      · right
        rw [h5] at hb'
        simp only [Option.some.injEq] at hb'
        omega) h2)
  show K (a.put o.dst v') w'
  rw [hd]
  exact h v' w' hst _ (ha.put c1 c2 c3 (by rw [if_pos gnil]))
end Z
end Go.Proofs.Ytogjkgoiofngaaa
