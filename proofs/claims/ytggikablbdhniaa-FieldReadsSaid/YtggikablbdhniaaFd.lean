/- The document's FromUint, Pack, Unpack. -/
import Derived.Test.YtggikablbdhniaaFc
namespace Go.Proofs.Ytggikablbdhniaa
open Go.RowKit
set_option linter.unusedSimpArgs false
set_option linter.unusedVariables false

def outj (v n j : Nat) : List Int := (List.range n).map fun i => if n - j ≤ i then bi (v.testBit (n - 1 - i)) else 0
@[simp] theorem outj_length (v n j : Nat) : (outj v n j).length = n := by simp [outj]
theorem outj_zero (v n : Nat) : ints .u8 (outj v n 0) = List.replicate n (.int .u8 0) := by
  apply List.ext_getElem?
  intro i
  simp only [ints, outj, List.map_map, List.getElem?_map, List.getElem?_replicate]
  by_cases h : i < n
  · rw [List.getElem?_range h]
    simp [h]
    intro h2
    omega
  · rw [List.getElem?_eq_none (by simpa using h)]
    simp [h]
theorem outj_full (v n : Nat) : outj v n n = bits (fld v n) := by
  apply List.ext_getElem?
  intro i
  simp only [outj, bits, List.getElem?_map]
  by_cases h : i < n
  · rw [List.getElem?_range h, fld_get v n i h]
    simp
  · rw [List.getElem?_eq_none (by simpa using h), List.getElem?_eq_none (by rw [fld_length]; omega)]
    rfl
theorem outj_succ (v n j : Nat) (h : j < n) : (ints .u8 (outj v n j)).set (((n : Int) - 1 - (j : Int)).toNat * 1) (.int .u8 (bi (v.testBit j))) = ints .u8 (outj v n (j + 1)) := by
  have e : (((n : Int) - 1 - (j : Int)).toNat * 1) = n - 1 - j := by omega
  rw [e]
  apply List.ext_getElem?
  intro i
  simp only [ints, outj, List.getElem?_set, List.length_map, List.length_range, List.getElem?_map]
  by_cases hi : n - 1 - j = i
  · subst hi
    have h1 : n - 1 - j < n := by omega
    rw [if_pos rfl, if_pos h1, List.getElem?_range h1]
    simp only [Option.map_some]
    rw [if_pos (by omega), show n - 1 - (n - 1 - j) = j from by omega]
  · rw [if_neg hi]
    by_cases h2 : i < n
    · rw [List.getElem?_range h2]
      simp only [Option.map_some]
      congr 2
      by_cases h3 : n - j ≤ i
      · rw [if_pos h3, if_pos (by omega)]
      · rw [if_neg h3, if_neg (by omega)]
    · rw [List.getElem?_eq_none (by simpa using h2)]
      rfl
theorem conv_bit (v j : Nat) : IntKind.u8.wrap (((v / 2 ^ j : Nat) : Int) % 2) = bi (v.testBit j) := by
  rw [testBit_bi]
  have : (((v / 2 ^ j : Nat) : Int) % 2) = ((v / 2 ^ j % 2 : Nat) : Int) := by omega
  rw [this]
  exact Z.wu8 (by omega)
theorem half (v j : Nat) (hv : v < 18446744073709551616) : IntKind.u64.wrap (((v / 2 ^ j : Nat) : Int).tdiv 2) = ((v / 2 ^ (j + 1) : Nat) : Int) := by
  have h1 : v / 2 ^ j ≤ v := Nat.div_le_self _ _
  rw [Nat.pow_succ, ← Nat.div_div_eq_div_mul]
  generalize v / 2 ^ j = q at *
  rw [Z.qu64 (by omega) (by omega)]
  omega

theorem fromUint_bad (v n : Int) (w : World) (h : n < 0 ∨ 64 < n) :
    Calls Try.prog 51 #[.int .u64 v, .int .i64 n] w (SX.Ret fun r w' => r = .tuple #[.slice none 0 0, .int .i64 2] ∧ SX.St w [] w' []) := by
  have hs := SX.St.start w
  refine Z.enter Try.func51 rfl Try.ntmps51 rfl rfl ?_
  refine Z.seq ?_
  refine Z.region ?_
  refine Z.lb 2 rfl ?_
  refine Z.lnil ?_
  refine Z.only [0, 1] rfl ?_
  refine Z.nthen ?_
  refine Z.seq ?_
  refine Z.seq ?_
  refine Z.region ?_
  refine Z.lb 6 rfl ?_
  refine Z.lnil ?_
  refine Z.only [0, 1, 13] rfl ?_
  refine Z.nthen ?_
  refine Z.cond rfl (fun hc1 => ?_) (fun h => absurd h (by simp; omega))
  refine Z.seq ?_
  refine Z.region ?_
  refine Z.lb 2 rfl ?_
  refine Z.lnil ?_
  refine Z.only [4, 5] rfl ?_
  refine Z.nthen ?_
  refine Z.ret ?_
  repeat (first | refine Z.rthen ?_ | refine Z.rblock ?_ | refine Z.rscope ?_)
  -- ret#0
  refine Z.out2 (by exact ⟨rfl, rfl, trivial⟩) ?_
  exact ⟨_, rfl, rfl, hs⟩
set_option maxRecDepth 100000 in
theorem fromUint_ok (v n : Nat) (w : World) (hn : n ≤ 64) (hv : v < 18446744073709551616) (h0 : v / 2 ^ n = 0) :
    Calls Try.prog 51 #[.int .u64 (v : Int), .int .i64 (n : Int)] w (SX.Ret fun r w' => ∃ sv, r = .tuple #[sv, .int .i64 0] ∧ SX.St w [] w' [SX.Ent.row sv 5 1 n (ints .u8 (bits (fld v n)))]) := by
  have hs := SX.St.start w
  refine Z.enter Try.func51 rfl Try.ntmps51 rfl rfl ?_
  refine Z.seq ?_
  refine Z.region ?_
  refine Z.lb 2 rfl ?_
  refine Z.lnil ?_
  refine Z.only [0, 1] rfl ?_
  refine Z.nthen ?_
  refine Z.seq ?_
  refine Z.seq ?_
  refine Z.region ?_
  refine Z.lb 6 rfl ?_
  refine Z.lnil ?_
  refine Z.only [0, 1, 13] rfl ?_
  refine Z.nthen ?_
  refine Z.cond rfl (fun h => absurd h (by simp; omega)) (fun hc1 => ?_)
  refine Z.skip ?_
  refine Z.nthen ?_
  refine Z.seq ?_
  refine Z.region ?_
  refine Z.lb 1 rfl ?_
  refine Z.le rfl trivial ?_
  refine Z.ZO.make1 (i0 := Try.t5) (bytes := 1) rfl rfl (by rfl) hs Try.underlying25 (by kernel_rfl) rfl rfl rfl rfl rfl rfl (by omega) (by unfold maxLen; omega) ?_
  clear hs; intro g15 w15 hs
  refine Z.lb 1 rfl ?_
  refine Z.lnil ?_
  refine Z.only [0, 1, 6] rfl ?_
  have e0 := outj_zero v n
  rw [← e0] at hs
  refine Z.nthen ?_
  refine Z.seq ?_
  refine Z.seq ?_
  refine Z.region ?_
  refine Z.lb 1 rfl ?_
  refine Z.l rfl rfl (by rfl) (Z.keepS hs) (Z.Yd.sub rfl rfl (fun hG => Z.wi64 (by first | omega | (have hG' := Z.gh rfl hG; simp at hG'; omega)))) ?_
  refine Z.lb 1 rfl ?_
  refine Z.lnil ?_
  refine Z.only [0, 6, 7] rfl ?_
  refine Z.nthen ?_
  refine Z.block ?_
  refine Z.loopk (ι := Nat) [6] rfl (fun j => [(0, [], .int .u64 ((v / 2 ^ j : Nat) : Int)), (7, [], .int .i64 ((n : Int) - 1 - (j : Int)))]) (fun j wr => j ≤ n ∧ SX.St w [] wr [SX.Ent.row (.slice (some ⟨g15, 0, none⟩) n n) 5 1 n (ints .u8 (outj v n j))]) (fun j => n - j) 0 (by refine ⟨?_, ?_, trivial⟩ <;> (first | rfl | (refine Z.lookv rfl ?_; simp; done) | (refine Z.lookv rfl ?_; simp; omega))) ⟨by omega, hs⟩ ?_
  clear hs
  rintro j w1 ⟨hj, hs⟩
  refine Z.only [0, 6, 7] rfl ?_
  refine Z.seq ?_
  refine Z.seq ?_
  refine Z.region ?_
  refine Z.lb 2 rfl ?_
  refine Z.lnil ?_
  refine Z.only [0, 6, 7, 19] rfl ?_
  refine Z.nthen ?_
  refine Z.cond rfl (fun hc5 => ?_) (fun hc5 => ?_)
  · first
      | (exfalso; simp at hc5 <;> omega)
      | (
        (try simp at hc5)
        refine Z.skip ?_
        refine Z.nthen ?_
        refine Z.seq ?_
        refine Z.block ?_
        refine Z.seq ?_
        refine Z.region ?_
        refine Z.lb 3 rfl ?_
        refine Z.l rfl rfl (by rfl) (Z.keepS hs) (Z.Yd.rem rfl rfl (by intro hG; first | decide | omega) (fun _ => Z.tmodn (Int.natCast_nonneg _))) ?_
        refine Z.l rfl rfl (by rfl) (Z.keepS hs) (Z.Yd.convI rfl ⟨_, Try.underlying33⟩ Try.underlying5 (fun _ => conv_bit v j)) ?_
        refine Z.l rfl rfl (by rfl) (Z.keepS hs) (Z.Yd.elem rfl rfl Try.underlying25 Try.sizeOf5 (fun hG => ⟨(by first | omega | (have hG' := Z.gh rfl hG; simp at hG'; omega)), (by first | omega | (have hG' := Z.gh rfl hG; simp at hG'; omega))⟩)) ?_
        refine Z.le rfl trivial ?_
        first | refine Z.ZO.store rfl rfl hs Try.sizeOf5 rfl rfl rfl (by first | exact SX.at0 | exact SX.at1 | exact SX.at2 | exact SX.at3 | exact SX.at4 | exact SX.at5 | exact Z.at6 | exact Z.at7 | exact Z.at8 | exact Z.at9 | exact Z.at10 | exact Z.at11 | exact Z.at12) (by simp) ?_ | refine Z.ZO.storeR rfl rfl hs Try.sizeOf5 rfl rfl rfl (by first | exact SX.at0 | exact SX.at1 | exact SX.at2 | exact SX.at3 | exact SX.at4 | exact SX.at5 | exact Z.at6 | exact Z.at7 | exact Z.at8 | exact Z.at9 | exact Z.at10 | exact Z.at11 | exact Z.at12) (by first | omega | (simp [ints_length]; done) | (simp [ints_length]; omega)) ?_
        clear hs; intro ws hs
        simp only [Nat.zero_add, Nat.add_zero, Nat.reduceAdd, List.set_cons_zero, List.set_cons_succ, List.setIfInBounds_toArray] at hs
        refine Z.lnil ?_
        refine Z.only [0, 6, 7] rfl ?_
        refine Z.nthen ?_
        refine Z.region ?_
        refine Z.lb 1 rfl ?_
        refine Z.l rfl rfl (by rfl) (Z.keepS hs) (Z.Yd.quo rfl rfl (by intro hG; first | decide | omega) (fun _ => half v j hv)) ?_
        refine Z.lb 1 rfl ?_
        refine Z.lnil ?_
        refine Z.only [0, 6, 7] rfl ?_
        refine Z.nblock ?_
        refine Z.nthen ?_
        refine Z.region ?_
        refine Z.lb 1 rfl ?_
        refine Z.l rfl rfl (by rfl) (Z.keepS hs) (Z.Yd.sub rfl rfl (fun hG => Z.wi64 (by first | omega | (have hG' := Z.gh rfl hG; simp at hG'; omega)))) ?_
        refine Z.lb 1 rfl ?_
        refine Z.lnil ?_
        refine Z.only [0, 6, 7] rfl ?_
        refine Z.nthen ?_
        exact Z.again (j + 1) (by refine ⟨?_, ?_, ?_, trivial⟩ <;> (first | rfl | (refine Z.lookv rfl ?_; simp; done) | (refine Z.lookv rfl ?_; simp; omega))) ⟨by omega, by rw [outj_succ v n j (by omega)] at hs; exact hs⟩ (by omega)
        )
  · first
      | (exfalso; simp at hc5 <;> omega)
      | (
        (try simp at hc5)
        refine Z.exit ?_
        refine Z.xthen ?_
        refine Z.xthen ?_
        refine Z.xblock ?_
        refine Z.nthen ?_
        refine Z.seq ?_
        refine Z.seq ?_
        refine Z.region ?_
        obtain rfl : j = n := by omega
        rw [outj_full] at hs
        refine Z.l rfl rfl (by rfl) (Z.keepS hs) (Z.Yd.pure rfl) ?_
        refine Z.lb 1 rfl ?_
        refine Z.lnil ?_
        refine Z.only [6, 31] rfl ?_
        refine Z.nthen ?_
        refine Z.cond rfl (fun h => absurd h (by rw [h0]; simp)) (fun hc9 => ?_)
        refine Z.skip ?_
        refine Z.nthen ?_
        refine Z.seq ?_
        refine Z.region ?_
        refine Z.lb 3 rfl ?_
        refine Z.lnil ?_
        refine Z.only [4, 5] rfl ?_
        refine Z.nthen ?_
        refine Z.ret ?_
        -- ret#0
        refine Z.out2 (by exact ⟨rfl, rfl, trivial⟩) ?_
        exact ⟨_, rfl, _, rfl, hs⟩
        )
set_option maxRecDepth 100000 in
theorem fromUint_long (v n : Nat) (w : World) (hn : n ≤ 64) (hv : v < 18446744073709551616) (h0 : v / 2 ^ n ≠ 0) :
    Calls Try.prog 51 #[.int .u64 (v : Int), .int .i64 (n : Int)] w (SX.Ret fun r w' => r = .tuple #[.slice none 0 0, .int .i64 4] ∧ SX.St w [] w' []) := by
  have hs := SX.St.start w
  refine Z.enter Try.func51 rfl Try.ntmps51 rfl rfl ?_
  refine Z.seq ?_
  refine Z.region ?_
  refine Z.lb 2 rfl ?_
  refine Z.lnil ?_
  refine Z.only [0, 1] rfl ?_
  refine Z.nthen ?_
  refine Z.seq ?_
  refine Z.seq ?_
  refine Z.region ?_
  refine Z.lb 6 rfl ?_
  refine Z.lnil ?_
  refine Z.only [0, 1, 13] rfl ?_
  refine Z.nthen ?_
  refine Z.cond rfl (fun h => absurd h (by simp; omega)) (fun hc1 => ?_)
  refine Z.skip ?_
  refine Z.nthen ?_
  refine Z.seq ?_
  refine Z.region ?_
  refine Z.lb 1 rfl ?_
  refine Z.le rfl trivial ?_
  refine Z.ZO.make1 (i0 := Try.t5) (bytes := 1) rfl rfl (by rfl) hs Try.underlying25 (by kernel_rfl) rfl rfl rfl rfl rfl rfl (by omega) (by unfold maxLen; omega) ?_
  clear hs; intro g15 w15 hs
  refine Z.lb 1 rfl ?_
  refine Z.lnil ?_
  refine Z.only [0, 1, 6] rfl ?_
  have e0 := outj_zero v n
  rw [← e0] at hs
  refine Z.nthen ?_
  refine Z.seq ?_
  refine Z.seq ?_
  refine Z.region ?_
  refine Z.lb 1 rfl ?_
  refine Z.l rfl rfl (by rfl) (Z.keepS hs) (Z.Yd.sub rfl rfl (fun hG => Z.wi64 (by first | omega | (have hG' := Z.gh rfl hG; simp at hG'; omega)))) ?_
  refine Z.lb 1 rfl ?_
  refine Z.lnil ?_
  refine Z.only [0, 6, 7] rfl ?_
  refine Z.nthen ?_
  refine Z.block ?_
  refine Z.loopk (ι := Nat) [6] rfl (fun j => [(0, [], .int .u64 ((v / 2 ^ j : Nat) : Int)), (7, [], .int .i64 ((n : Int) - 1 - (j : Int)))]) (fun j wr => j ≤ n ∧ SX.St w [] wr [SX.Ent.row (.slice (some ⟨g15, 0, none⟩) n n) 5 1 n (ints .u8 (outj v n j))]) (fun j => n - j) 0 (by refine ⟨?_, ?_, trivial⟩ <;> (first | rfl | (refine Z.lookv rfl ?_; simp; done) | (refine Z.lookv rfl ?_; simp; omega))) ⟨by omega, hs⟩ ?_
  clear hs
  rintro j w1 ⟨hj, hs⟩
  refine Z.only [0, 6, 7] rfl ?_
  refine Z.seq ?_
  refine Z.seq ?_
  refine Z.region ?_
  refine Z.lb 2 rfl ?_
  refine Z.lnil ?_
  refine Z.only [0, 6, 7, 19] rfl ?_
  refine Z.nthen ?_
  refine Z.cond rfl (fun hc5 => ?_) (fun hc5 => ?_)
  · first
      | (exfalso; simp at hc5 <;> omega)
      | (
        (try simp at hc5)
        refine Z.skip ?_
        refine Z.nthen ?_
        refine Z.seq ?_
        refine Z.block ?_
        refine Z.seq ?_
        refine Z.region ?_
        refine Z.lb 3 rfl ?_
        refine Z.l rfl rfl (by rfl) (Z.keepS hs) (Z.Yd.rem rfl rfl (by intro hG; first | decide | omega) (fun _ => Z.tmodn (Int.natCast_nonneg _))) ?_
        refine Z.l rfl rfl (by rfl) (Z.keepS hs) (Z.Yd.convI rfl ⟨_, Try.underlying33⟩ Try.underlying5 (fun _ => conv_bit v j)) ?_
        refine Z.l rfl rfl (by rfl) (Z.keepS hs) (Z.Yd.elem rfl rfl Try.underlying25 Try.sizeOf5 (fun hG => ⟨(by first | omega | (have hG' := Z.gh rfl hG; simp at hG'; omega)), (by first | omega | (have hG' := Z.gh rfl hG; simp at hG'; omega))⟩)) ?_
        refine Z.le rfl trivial ?_
        first | refine Z.ZO.store rfl rfl hs Try.sizeOf5 rfl rfl rfl (by first | exact SX.at0 | exact SX.at1 | exact SX.at2 | exact SX.at3 | exact SX.at4 | exact SX.at5 | exact Z.at6 | exact Z.at7 | exact Z.at8 | exact Z.at9 | exact Z.at10 | exact Z.at11 | exact Z.at12) (by simp) ?_ | refine Z.ZO.storeR rfl rfl hs Try.sizeOf5 rfl rfl rfl (by first | exact SX.at0 | exact SX.at1 | exact SX.at2 | exact SX.at3 | exact SX.at4 | exact SX.at5 | exact Z.at6 | exact Z.at7 | exact Z.at8 | exact Z.at9 | exact Z.at10 | exact Z.at11 | exact Z.at12) (by first | omega | (simp [ints_length]; done) | (simp [ints_length]; omega)) ?_
        clear hs; intro ws hs
        simp only [Nat.zero_add, Nat.add_zero, Nat.reduceAdd, List.set_cons_zero, List.set_cons_succ, List.setIfInBounds_toArray] at hs
        refine Z.lnil ?_
        refine Z.only [0, 6, 7] rfl ?_
        refine Z.nthen ?_
        refine Z.region ?_
        refine Z.lb 1 rfl ?_
        refine Z.l rfl rfl (by rfl) (Z.keepS hs) (Z.Yd.quo rfl rfl (by intro hG; first | decide | omega) (fun _ => half v j hv)) ?_
        refine Z.lb 1 rfl ?_
        refine Z.lnil ?_
        refine Z.only [0, 6, 7] rfl ?_
        refine Z.nblock ?_
        refine Z.nthen ?_
        refine Z.region ?_
        refine Z.lb 1 rfl ?_
        refine Z.l rfl rfl (by rfl) (Z.keepS hs) (Z.Yd.sub rfl rfl (fun hG => Z.wi64 (by first | omega | (have hG' := Z.gh rfl hG; simp at hG'; omega)))) ?_
        refine Z.lb 1 rfl ?_
        refine Z.lnil ?_
        refine Z.only [0, 6, 7] rfl ?_
        refine Z.nthen ?_
        exact Z.again (j + 1) (by refine ⟨?_, ?_, ?_, trivial⟩ <;> (first | rfl | (refine Z.lookv rfl ?_; simp; done) | (refine Z.lookv rfl ?_; simp; omega))) ⟨by omega, by rw [outj_succ v n j (by omega)] at hs; exact hs⟩ (by omega)
        )
  · first
      | (exfalso; simp at hc5 <;> omega)
      | (
        (try simp at hc5)
        refine Z.exit ?_
        refine Z.xthen ?_
        refine Z.xthen ?_
        refine Z.xblock ?_
        refine Z.nthen ?_
        refine Z.seq ?_
        refine Z.seq ?_
        refine Z.region ?_
        obtain rfl : j = n := by omega
        refine Z.l rfl rfl (by rfl) (Z.keepS hs) (Z.Yd.pure rfl) ?_
        refine Z.lb 1 rfl ?_
        refine Z.lnil ?_
        refine Z.only [6, 31] rfl ?_
        refine Z.nthen ?_
        refine Z.cond rfl (fun hc9 => ?_) (fun h => absurd h (by rw [decide_eq_false_iff_not, Decidable.not_not]; exact Int.natCast_pos.2 (Nat.pos_of_ne_zero h0)))
        refine Z.seq ?_
        refine Z.region ?_
        refine Z.lb 2 rfl ?_
        refine Z.lnil ?_
        refine Z.only [4, 5] rfl ?_
        refine Z.nthen ?_
        refine Z.ret ?_
        repeat (first | refine Z.rthen ?_ | refine Z.rblock ?_ | refine Z.rscope ?_)
        -- ret#0
        refine Z.out2 (by exact ⟨rfl, rfl, trivial⟩) ?_
        exact ⟨_, rfl, rfl, hs.sub (List.nil_sublist _)⟩
        )

theorem pkn_false {bs : List Bool} {m : Nat} (h : bs.length / 8 < m) : pkn (bs ++ [false]) m = pkn bs m := by
  rw [← pkn_set (b := false) h]
  have e := (byt_snoc (bs := bs) (b := false)).1
  simp at e
  rw [e]
  apply List.ext_getElem?
  intro i
  simp only [pkn, List.getElem?_set, List.length_map, List.length_range, List.getElem?_map]
  by_cases hi : bs.length / 8 = i
  · subst hi
    rw [if_pos rfl, if_pos h, List.getElem?_range h]
    rfl
  · rw [if_neg hi]
theorem pkn_nil (m : Nat) : ints .u8 (pkn [] m) = List.replicate m (.int .u8 0) := by
  apply List.ext_getElem?
  intro i
  simp only [ints, pkn, List.map_map, List.getElem?_map, List.getElem?_replicate]
  by_cases h : i < m
  · rw [List.getElem?_range h]
    simp [h, byt_out]
  · rw [List.getElem?_eq_none (by simpa using h)]
    simp [h]
theorem take_bt {bs : List Bool} {k : Nat} (h : k < bs.length) : bs.take (k + 1) = bs.take k ++ [bt bs k] := by
  rw [List.take_succ_eq_append_getElem h]
  simp [bt, h]
theorem shl_one (r : Nat) (hr : r < 8) : IntKind.u8.wrap (1 * 2 ^ (min ((7 : Int) - (r : Int)).toNat IntKind.u8.bits)) = ((2 ^ (7 - r) : Nat) : Int) := by
  have h8 : r = 0 ∨ r = 1 ∨ r = 2 ∨ r = 3 ∨ r = 4 ∨ r = 5 ∨ r = 6 ∨ r = 7 := by omega
  rcases h8 with rfl | rfl | rfl | rfl | rfl | rfl | rfl | rfl <;> decide
theorem add_byt {bs : List Bool} {k : Nat} (hk : k = bs.length) : IntKind.u8.wrap ((byt bs (k / 8) : Int) + ((2 ^ (7 - k % 8) : Nat) : Int)) = ((byt (bs ++ [true]) (k / 8) : Nat) : Int) := by
  subst hk
  have h1 := (byt_snoc (bs := bs) (b := true)).1
  have h2 := byt_lt (bs ++ [true]) (bs.length / 8)
  simp only [Bool.toNat_true, Nat.one_mul] at h1
  rw [← Int.natCast_add, ← h1]
  exact Z.wu8 (by omega)

set_option maxRecDepth 100000 in
theorem pack_any (A : Option Addr) (n c : Nat) (bs : List Bool) (w : World) (hx : Sl w A (ints .u8 (bits bs))) (hl : bs.length = n) (hn : n ≤ 100000000) :
    Calls Try.prog 38 #[.slice A n c] w (SX.Ret fun v w' => ∃ sv, v = .tuple #[sv, .int .i64 0] ∧ SX.St w [] w' [SX.Ent.row sv 5 1 (pk bs).length (ints .u8 (pk bs))]) := by
  have hs := SX.St.start w
  have hlb := bits_length bs
  refine Z.enter Try.func38 rfl Try.ntmps38 rfl rfl ?_
  refine Z.seq ?_
  refine Z.region ?_
  refine Z.lb 2 rfl ?_
  refine Z.lnil ?_
  refine Z.only [0] rfl ?_
  refine Z.nthen ?_
  refine Z.seq ?_
  refine Z.seq ?_
  refine Z.region ?_
  refine Z.lb 1 rfl ?_
  refine Z.le rfl trivial ?_
  refine Z.ZO.call rfl rfl (by rfl) rfl rfl Try.call52 rfl (valid01 A n c bs _ hx hl hn) ?_
  rintro v1_1 w1_1 ⟨rfl, hy⟩
  replace hs := hs.call hy
  clear hy
  simp only [List.cons_append, List.nil_append, List.append_nil] at hs
  refine Z.lb 1 rfl ?_
  refine Z.lnil ?_
  refine Z.only [0, 8] rfl ?_
  refine Z.nthen ?_
  refine Z.cond rfl (fun h => absurd h (by simp)) (fun hc1 => ?_)
  refine Z.skip ?_
  refine Z.nthen ?_
  refine Z.seq ?_
  refine Z.region ?_
  refine Z.lb 1 rfl ?_
  refine Z.l rfl rfl (by rfl) (Z.keepS hs) (Z.Yd.lenS rfl Try.underlying25) ?_
  refine Z.l rfl rfl (by rfl) (Z.keepS hs) (Z.Yd.add rfl rfl (fun hG => Z.wi64 (by first | omega | (have hG' := Z.gh rfl hG; simp at hG'; omega)))) ?_
  refine Z.l rfl rfl (by rfl) (Z.keepS hs) (Z.Yd.quo rfl rfl (by intro hG; first | decide | omega) (by intro hG; first | exact Z.qi64 ⟨by omega, by omega⟩ (by omega) | exact rfl)) ?_
  refine Z.le rfl trivial ?_
  refine Z.ZO.make1 (m := (n + 7) / 8) (i0 := Try.t5) (bytes := 1) rfl rfl (by rfl) hs Try.underlying25 (by kernel_rfl) rfl rfl rfl rfl rfl rfl (by omega) (by unfold maxLen; omega) ?_
  clear hs; intro g13 w13 hs
  refine Z.lb 1 rfl ?_
  refine Z.lnil ?_
  refine Z.only [0, 4] rfl ?_
  have e0 := pkn_nil ((n + 7) / 8)
  rw [← e0] at hs
  refine Z.nthen ?_
  refine Z.seq ?_
  refine Z.seq ?_
  refine Z.region ?_
  refine Z.lb 1 rfl ?_
  refine Z.lnil ?_
  refine Z.only [0, 4, 5] rfl ?_
  refine Z.nthen ?_
  refine Z.block ?_
  refine Z.loopk (ι := Nat) [0, 4] rfl (fun k => [(5, [], .int .i64 (k : Int))]) (fun k wr => k ≤ n ∧ SX.St w [] wr [SX.Ent.row (.slice (some ⟨g13, 0, none⟩) ((n + 7) / 8) ((n + 7) / 8)) 5 1 ((n + 7) / 8) (ints .u8 (pkn (bs.take k) ((n + 7) / 8)))]) (fun k => n - k) 0 (by refine ⟨?_, trivial⟩ <;> (first | rfl | (refine Z.lookv rfl ?_; simp; done) | (refine Z.lookv rfl ?_; simp; omega))) ⟨by omega, hs⟩ ?_
  clear hs
  rintro k w1 ⟨hkn, hs⟩
  refine Z.only [0, 4, 5] rfl ?_
  refine Z.seq ?_
  refine Z.seq ?_
  refine Z.region ?_
  refine Z.lb 2 rfl ?_
  refine Z.l rfl rfl (by rfl) (Z.keepS hs) (Z.Yd.lenS rfl Try.underlying25) ?_
  refine Z.lb 1 rfl ?_
  refine Z.lnil ?_
  refine Z.only [0, 4, 5, 17] rfl ?_
  refine Z.nthen ?_
  refine Z.cond rfl (fun hc5 => ?_) (fun hc5 => ?_)
  · first
      | (exfalso; simp at hc5 <;> omega)
      | (
        (try simp at hc5)
        obtain ⟨b, off, rfl, hb, hx⟩ := Z.Sl.some hx (by simp [ints]; omega)
        have he := elt_bits (bs := bs) (i := k) (by omega)
        have ht := take_bt (bs := bs) (k := k) (by omega)
        have htl : (bs.take k).length = k := by simp; omega
        refine Z.skip ?_
        refine Z.nthen ?_
        refine Z.seq ?_
        refine Z.block ?_
        refine Z.seq ?_
        refine Z.region ?_
        refine Z.lb 2 rfl ?_
        refine Z.l rfl rfl (by rfl) (Z.keepS hs) (Z.Yd.elem rfl rfl Try.underlying25 Try.sizeOf5 (fun hG => ⟨(by first | omega | (have hG' := Z.gh rfl hG; simp at hG'; omega)), (by first | omega | (have hG' := Z.gh rfl hG; simp at hG'; omega))⟩)) ?_
        refine Z.l rfl rfl (by rfl) (Z.keepS hs) (by first | exact Z.Yd.load rfl Try.isAgg5 (fun hG => Z.cellR (by first | ((repeat (first | exact List.mem_cons_self | refine List.mem_cons_of_mem _ ?_ | refine List.mem_append_right _ ?_)); done) | fail) (Z.ints_at (by first | omega | (have hG' := Z.gh rfl hG; simp at hG'; omega)) (by first | omega | (have hG' := Z.gh rfl hG; simp at hG'; omega)))) | exact Z.Yd.load rfl Try.isAgg5 (fun hG => Z.cellXi (by assumption) (by first | omega | (have hG' := Z.gh rfl hG; simp at hG'; omega)) (by first | omega | (have hG' := Z.gh rfl hG; simp at hG'; omega))) | exact Z.Yd.load rfl Try.isAgg5 (fun hG => Z.cellS (by assumption) rfl (by first | omega | (have hG' := Z.gh rfl hG; simp at hG'; omega)) (by first | omega | (have hG' := Z.gh rfl hG; simp at hG'; omega))) | fail "load 7.3") ?_
        refine Z.lb 1 rfl ?_
        refine Z.lnil ?_
        refine Z.only [0, 4, 5, 24] rfl ?_
        refine Z.nthen ?_
        refine Z.cond rfl (fun hc7 => ?_) (fun hc7 => ?_)
        · first
            | (exfalso; simp at hc7 <;> omega)
            | (
              (try simp at hc7)
              refine Z.drawK (fun j => j != 14) mixed hs ?_
              clear hs; intro wd8 hs
              refine Z.tb [0, 1] (by kernel_rfl) rfl ⟨_, hs, by simp⟩ rfl ?_
              refine Z.t 2 rfl rfl rfl (by rfl) (by kernel_rfl) ⟨_, hs, by simp⟩ (Z.Yd.quo rfl rfl (by intro hG; first | decide | omega) (by intro hG; first | exact Z.qi64 ⟨by omega, by omega⟩ (by omega) | exact rfl)) ?_
              refine Z.tb [3, 4] (by kernel_rfl) rfl ⟨_, hs, by simp⟩ rfl ?_
              refine Z.t 5 rfl rfl rfl (by rfl) (by kernel_rfl) ⟨_, hs, by simp⟩ (Z.Yd.quo rfl rfl (by intro hG; first | decide | omega) (by intro hG; first | exact Z.qi64 ⟨by omega, by omega⟩ (by omega) | exact rfl)) ?_
              refine Z.t 6 rfl rfl rfl (by rfl) (by kernel_rfl) ⟨_, hs, by simp⟩ (Z.Yd.elem rfl rfl Try.underlying25 Try.sizeOf5 (fun hG => ⟨(by first | omega | (have hG' := Z.gh rfl hG; simp at hG'; omega)), (by first | omega | (have hG' := Z.gh rfl hG; simp at hG'; omega))⟩)) ?_
              refine Z.t 7 rfl rfl rfl (by rfl) (by kernel_rfl) ⟨_, hs, by simp⟩ (Z.Yd.load rfl Try.isAgg5 (fun _ => Z.cellR (by first | ((repeat (first | exact List.mem_cons_self | refine List.mem_cons_of_mem _ ?_ | refine List.mem_append_right _ ?_)); done) | fail) (pkn_at (j := k / 8) (by omega) (by omega)))) ?_
              refine Z.tb [8] (by kernel_rfl) rfl ⟨_, hs, by simp⟩ rfl ?_
              refine Z.t 9 rfl rfl rfl (by rfl) (by kernel_rfl) ⟨_, hs, by simp⟩ (Z.Yd.rem rfl rfl (by intro hG; first | decide | omega) (by intro hG; first | exact Z.tmodn (by omega) | exact rfl)) ?_
              refine Z.t 10 rfl rfl rfl (by rfl) (by kernel_rfl) ⟨_, hs, by simp⟩ (Z.Yd.sub rfl rfl (fun hG => Z.wi64 (by first | omega | (have hG' := Z.gh rfl hG; simp at hG'; omega)))) ?_
              refine Z.t 11 rfl rfl rfl (by rfl) (by kernel_rfl) ⟨_, hs, by simp⟩ (Z.Yd.shl rfl rfl (by intro hG; first | decide | omega) (fun _ => shl_one (k % 8) (by omega))) ?_
              refine Z.t 12 rfl rfl rfl (by rfl) (by kernel_rfl) ⟨_, hs, by simp⟩ (Z.Yd.add rfl rfl (fun _ => add_byt htl.symm)) ?_
              refine Z.t 13 rfl rfl rfl (by rfl) (by kernel_rfl) ⟨_, hs, by simp⟩ (Z.Yd.elem rfl rfl Try.underlying25 Try.sizeOf5 (fun hG => ⟨(by first | omega | (have hG' := Z.gh rfl hG; simp at hG'; omega)), (by first | omega | (have hG' := Z.gh rfl hG; simp at hG'; omega))⟩)) ?_
              refine Z.tn 14 rfl rfl (by kernel_rfl) rfl trivial ?_
              first | refine Z.ZO.store rfl rfl hs Try.sizeOf5 rfl rfl rfl (by first | exact SX.at0 | exact SX.at1 | exact SX.at2 | exact SX.at3 | exact SX.at4 | exact SX.at5 | exact Z.at6 | exact Z.at7 | exact Z.at8 | exact Z.at9 | exact Z.at10 | exact Z.at11 | exact Z.at12) (by simp) ?_ | refine Z.ZO.storeR rfl rfl hs Try.sizeOf5 rfl rfl rfl (by first | exact SX.at0 | exact SX.at1 | exact SX.at2 | exact SX.at3 | exact SX.at4 | exact SX.at5 | exact Z.at6 | exact Z.at7 | exact Z.at8 | exact Z.at9 | exact Z.at10 | exact Z.at11 | exact Z.at12) (by first | omega | (simp [ints_length]; done) | (simp [ints_length]; omega)) ?_
              clear hs; intro ws hs
              simp only [Nat.zero_add, Nat.add_zero, Nat.reduceAdd, List.set_cons_zero, List.set_cons_succ, List.setIfInBounds_toArray] at hs
              refine Z.tk (Dn := fun j => j != 14) (i := 14) (fun h => absurd h (by decide)) ?_
              refine Z.td (by rfl) (by kernel_rfl) ?_
              refine Z.only [0, 4, 5] rfl ?_
              refine Z.nblock ?_
              refine Z.nthen ?_
              refine Z.region ?_
              refine Z.lb 1 rfl ?_
              refine Z.l rfl rfl (by rfl) (Z.keepS hs) (Z.Yd.add rfl rfl (fun hG => Z.wi64 (by first | omega | (have hG' := Z.gh rfl hG; simp at hG'; omega)))) ?_
              refine Z.lb 1 rfl ?_
              refine Z.lnil ?_
              refine Z.only [0, 4, 5] rfl ?_
              refine Z.nthen ?_
              first
              | (have hb1 : bt bs k = true := by cases h : bt bs k with
                   | true => rfl
                   | false => rw [he, h] at hc7; simp [bi] at hc7
                 rw [hb1] at ht
                 have e := pkn_set (bs := bs.take k) (b := true) (m := (n + 7) / 8) (by rw [htl]; omega)
                 rw [htl] at e
                 have e2 : (((k : Int) / 8).toNat * 1) = k / 8 := by omega
                 have e3 : (ints .u8 (pkn (bs.take k) ((n + 7) / 8))).set (((k : Int) / 8).toNat * 1) (.int .u8 ((byt (bs.take k ++ [true]) (k / 8) : Nat) : Int)) = ints .u8 (pkn (bs.take (k + 1)) ((n + 7) / 8)) := by
                   rw [e2, ht, ← e]
                   simp only [ints]
                   rw [List.map_set]
                 rw [e3] at hs
                 exact Z.again (k + 1) (by refine ⟨?_, ?_, ?_, trivial⟩ <;> (first | rfl | (refine Z.lookv rfl ?_; simp; done) | (refine Z.lookv rfl ?_; simp; omega))) ⟨by omega, hs⟩ (by omega))
              | (have hb0 : bt bs k = false := by cases h : bt bs k with
                   | false => rfl
                   | true => rw [he, h] at hc7; simp [bi] at hc7
                 rw [hb0] at ht
                 have e := pkn_false (bs := bs.take k) (m := (n + 7) / 8) (by rw [htl]; omega)
                 rw [← e, ← ht] at hs
                 exact Z.again (k + 1) (by refine ⟨?_, ?_, ?_, trivial⟩ <;> (first | rfl | (refine Z.lookv rfl ?_; simp; done) | (refine Z.lookv rfl ?_; simp; omega))) ⟨by omega, hs⟩ (by omega))
              )
        · first
            | (exfalso; simp at hc7 <;> omega)
            | (
              (try simp at hc7)
              refine Z.skip ?_
              refine Z.nblock ?_
              refine Z.nthen ?_
              refine Z.region ?_
              refine Z.lb 1 rfl ?_
              refine Z.l rfl rfl (by rfl) (Z.keepS hs) (Z.Yd.add rfl rfl (fun hG => Z.wi64 (by first | omega | (have hG' := Z.gh rfl hG; simp at hG'; omega)))) ?_
              refine Z.lb 1 rfl ?_
              refine Z.lnil ?_
              refine Z.only [0, 4, 5] rfl ?_
              refine Z.nthen ?_
              first
              | (have hb1 : bt bs k = true := by cases h : bt bs k with
                   | true => rfl
                   | false => rw [he, h] at hc7; simp [bi] at hc7
                 rw [hb1] at ht
                 have e := pkn_set (bs := bs.take k) (b := true) (m := (n + 7) / 8) (by rw [htl]; omega)
                 rw [htl] at e
                 have e2 : (((k : Int) / 8).toNat * 1) = k / 8 := by omega
                 have e3 : (ints .u8 (pkn (bs.take k) ((n + 7) / 8))).set (((k : Int) / 8).toNat * 1) (.int .u8 ((byt (bs.take k ++ [true]) (k / 8) : Nat) : Int)) = ints .u8 (pkn (bs.take (k + 1)) ((n + 7) / 8)) := by
                   rw [e2, ht, ← e]
                   simp only [ints]
                   rw [List.map_set]
                 rw [e3] at hs
                 exact Z.again (k + 1) (by refine ⟨?_, ?_, ?_, trivial⟩ <;> (first | rfl | (refine Z.lookv rfl ?_; simp; done) | (refine Z.lookv rfl ?_; simp; omega))) ⟨by omega, hs⟩ (by omega))
              | (have hb0 : bt bs k = false := by cases h : bt bs k with
                   | false => rfl
                   | true => rw [he, h] at hc7; simp [bi] at hc7
                 rw [hb0] at ht
                 have e := pkn_false (bs := bs.take k) (m := (n + 7) / 8) (by rw [htl]; omega)
                 rw [← e, ← ht] at hs
                 exact Z.again (k + 1) (by refine ⟨?_, ?_, ?_, trivial⟩ <;> (first | rfl | (refine Z.lookv rfl ?_; simp; done) | (refine Z.lookv rfl ?_; simp; omega))) ⟨by omega, hs⟩ (by omega))
              )
        )
  · first
      | (exfalso; simp at hc5 <;> omega)
      | (
        (try simp at hc5)
        refine Z.exit ?_
        refine Z.xthen ?_
        refine Z.xthen ?_
        refine Z.xblock ?_
        refine Z.nthen ?_
        refine Z.seq ?_
        refine Z.region ?_
        refine Z.lb 3 rfl ?_
        refine Z.lnil ?_
        refine Z.only [2, 3] rfl ?_
        refine Z.nthen ?_
        refine Z.ret ?_
        -- ret#0
        refine Z.out2 (by exact ⟨rfl, rfl, trivial⟩) ?_
        refine ⟨_, rfl, _, rfl, ?_⟩
        rw [List.take_of_length_le (by omega)] at hs
        rw [pk_length, hl]
        unfold pk
        rw [hl]
        exact hs
        )
end Go.Proofs.Ytggikablbdhniaa
