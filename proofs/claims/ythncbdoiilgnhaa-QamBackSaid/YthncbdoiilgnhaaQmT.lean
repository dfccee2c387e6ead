/- The document's Soft and Softs. -/
import Derived.Test.YthncbdoiilgnhaaQmS
namespace Go.Proofs.Ythncbdoiilgnhaa
open Go.RowKit
set_option linter.unusedSimpArgs false
set_option linter.unusedVariables false

def bst (n : Nat) (y : Int) (k : Nat) (b : Int) (j : Nat) : Int := lst 1152921504606846976 (sqs n y k b (List.range j))
theorem bst_succ (n : Nat) (y : Int) (k : Nat) (b : Int) (j : Nat) : bst n y k b (j + 1) = if (bitOf j k == b) = true then min (bst n y k b j) (sq n y j) else bst n y k b j := by
  unfold bst
  rw [List.range_succ, sqs_snoc]
  split
  · rw [lst_snoc]
  · rfl
theorem lev_grp (n : Nat) (hn : 1 ≤ n) (hn3 : n ≤ 3) (v : Nat) : lev (grp n v) = rlev n (bitOf v 0) (bitOf v 1) (bitOf v 2) := by
  have h : n = 1 ∨ n = 2 ∨ n = 3 := by omega
  rcases h with rfl | rfl | rfl <;> simp [grp, lev, rlev, List.range_succ]
theorem lev_lt (n g : Nat) (hn : 1 ≤ n) (hn3 : n ≤ 3) : -8 < lev (grp n g) ∧ lev (grp n g) < 8 := by
  have hd := lev_bd (grp n g) (grp_bits n g)
  rw [grp_length] at hd
  have : n = 1 ∨ n = 2 ∨ n = 3 := by omega
  rcases this with h | h | h <;> (rw [h] at hd ⊢; simp at hd; omega)
theorem sq_bd (n : Nat) (y : Int) (g : Nat) (hn : 1 ≤ n) (hn3 : n ≤ 3) (hy1 : -1048576 ≤ y) (hy2 : y ≤ 1048576) : 0 ≤ sq n y g ∧ sq n y g ≤ 1048704 * 1048704 := by
  have := lev_lt n g hn hn3
  exact ⟨mul_self_nonneg' _, mul_self_le' (by omega) (by omega)⟩
theorem bst_dst (n : Nat) (y : Int) (k : Nat) (b : Int) (hn : 1 ≤ n) (hn3 : n ≤ 3) (hk : k < n) (hb : b = 0 ∨ b = 1) (hy1 : -1048576 ≤ y) (hy2 : y ≤ 1048576) : bst n y k b (2 ^ n) = dst n y k b := by
  obtain ⟨x, r, h⟩ := sqs_some n y k b hn hn3 hk hb
  have hx : x ≤ 1152921504606846976 := by
    have hm : x ∈ sqs n y k b (List.range (2 ^ n)) := by rw [h]; simp
    simp only [sqs, List.mem_map] at hm
    obtain ⟨g, _, rfl⟩ := hm
    have := sq_bd n y g hn hn3 hy1 hy2
    omega
  unfold bst dst
  rw [h]
  simp only [lst, List.foldl_cons, List.headD_cons, List.tail_cons]
  rw [Int.min_eq_right hx]

theorem bst_bd (n : Nat) (y : Int) (k : Nat) (b : Int) (hn : 1 ≤ n) (hn3 : n ≤ 3) (hy1 : -1048576 ≤ y) (hy2 : y ≤ 1048576) : ∀ j, 0 ≤ bst n y k b j ∧ bst n y k b j ≤ 1152921504606846976
  | 0 => by simp [bst, sqs, lst]
  | j + 1 => by
    have h1 := bst_bd n y k b hn hn3 hy1 hy2 j
    have h2 := sq_bd n y j hn hn3 hy1 hy2
    rw [bst_succ]
    split <;> omega
def bstC (n : Nat) (y : Int) (k j : Nat) : Array Value := #[.int .i64 (bst n y k 0 j), .int .i64 (bst n y k 1 j)]
theorem bstC_get (n : Nat) (y : Int) (k j v : Nat) : Z.nth (bstC n y k j).toList (0 + (bitOf v k).toNat * 1) = some (.int .i64 (bst n y k (bitOf v k) j)) := by
  rcases bitOf_bd v k with h | h <;> rw [h] <;> rfl
@[simp] theorem bstC_size (n : Nat) (y : Int) (k j : Nat) : (bstC n y k j).size = 2 := rfl
theorem bstC_succ (n : Nat) (y : Int) (k j : Nat) : (bstC n y k j).setIfInBounds ((bitOf j k).toNat * 1) (.int .i64 (min (bst n y k (bitOf j k) j) ((y - 16 * lev (grp n j)) * (y - 16 * lev (grp n j))))) = bstC n y k (j + 1) := by
  show (bstC n y k j).setIfInBounds ((bitOf j k).toNat * 1) (.int .i64 (min (bst n y k (bitOf j k) j) (sq n y j))) = bstC n y k (j + 1)
  unfold bstC
  rw [bst_succ, bst_succ]
  rcases bitOf_bd j k with h | h <;> rw [h] <;> simp
theorem shr_bit (v k : Nat) (hk : k ≤ 3) : ((v : Int).fdiv (2 ^ (min (k : Int).toNat IntKind.i64.bits))).tmod 2 = bitOf v k := by
  have e : min (k : Int).toNat IntKind.i64.bits = k := by
    have : IntKind.i64.bits = 64 := rfl
    omega
  rw [e, Int.fdiv_eq_ediv_of_nonneg _ (Int.le_of_lt (Int.pow_pos (by decide)))]
  have e2 : ((v : Int) / 2 ^ k) = ((v / 2 ^ k : Nat) : Int) := by push_cast; rfl
  rw [e2, Z.tmodn (Int.natCast_nonneg _)]
  unfold bitOf
  omega

theorem tdiv64 {x : Int} (h1 : -1152921504606846976 ≤ x) (h2 : x ≤ 1152921504606846976) : IntKind.i64.wrap (x.tdiv 64) = x.tdiv 64 := by
  apply Z.wi64
  rcases Int.le_total 0 x with h | h
  · rw [Int.tdiv_eq_ediv_of_nonneg h]
    omega
  · have e : x.tdiv 64 = -((-x) / 64) := by
      rw [show x = -(-x) from by omega, Int.neg_tdiv, Int.neg_neg, Int.tdiv_eq_ediv_of_nonneg (by omega)]
    rw [e]
    omega
theorem half2 (n : Nat) (hn3 : n ≤ 3) : IntKind.i64.wrap (((2 * n : Nat) : Int).tdiv 2) = (n : Int) := by
  rw [Int.tdiv_eq_ediv_of_nonneg (by omega), show ((2 * n : Nat) : Int) / 2 = (n : Int) from by omega]
  exact Z.wi64 (by omega)
theorem shl_n (n : Nat) (hn : 1 ≤ n) (hn3 : n ≤ 3) : IntKind.i64.wrap (1 * 2 ^ (min (n : Int).toNat IntKind.i64.bits)) = ((2 ^ n : Nat) : Int) := by
  have h : n = 1 ∨ n = 2 ∨ n = 3 := by omega
  rcases h with rfl | rfl | rfl <;> decide

set_option maxRecDepth 100000 in
theorem rsoft_any (n k : Nat) (y : Int) (w : World) (hn : 1 ≤ n) (hn3 : n ≤ 3) (hk : k < n) (hy1 : -1048576 ≤ y) (hy2 : y ≤ 1048576) :
    Calls Try.prog 38 #[.int .i64 ((2 * n : Nat) : Int), .int .i64 y, .int .i64 (k : Int)] w (SX.Ret fun r w' => r = .int .i64 (sfv n y k) ∧ SX.St w [] w' []) := by
  have hs := SX.St.start w
  obtain ⟨N, hN⟩ : ∃ N, N = 2 ^ n := ⟨_, rfl⟩
  have hN8 : 2 ≤ N ∧ N ≤ 8 := by
    have h : n = 1 ∨ n = 2 ∨ n = 3 := by omega
    rcases h with rfl | rfl | rfl <;> rw [hN] <;> decide
  have hsh := shl_n n hn hn3
  rw [← hN] at hsh
  refine Z.enter Try.func38 rfl Try.ntmps38 rfl rfl ?_
  refine Z.seq ?_
  refine Z.region ?_
  refine Z.lb 1 rfl ?_
  refine Z.lnil ?_
  refine Z.only [0, 1, 2] rfl ?_
  refine Z.nthen ?_
  refine Z.seq ?_
  refine Z.region ?_
  refine Z.le rfl trivial ?_
  refine Z.ZO.alloc rfl rfl (by rfl) Try.zeroValue78 rfl hs ?_
  clear hs; intro g7 w7 hs
  refine Z.lnil ?_
  refine Z.only [0, 1, 2, 7] rfl ?_
  refine Z.nthen ?_
  refine Z.seq ?_
  refine Z.region ?_
  refine Z.l rfl rfl (by rfl) (Z.keepS hs) (Z.Yd.elemA rfl rfl Try.underlying78 Try.sizeOf3 (fun hG => ⟨(by first | omega | (have hG' := Z.gh rfl hG; simp at hG'; omega)), (by first | omega | (have hG' := Z.gh rfl hG; simp at hG'; omega))⟩)) ?_
  refine Z.le rfl trivial ?_
  first | refine Z.ZO.store rfl rfl hs Try.sizeOf3 rfl rfl rfl (by first | exact SX.at0 | exact SX.at1 | exact SX.at2 | exact SX.at3 | exact SX.at4 | exact SX.at5 | exact Z.at6 | exact Z.at7 | exact Z.at8 | exact Z.at9 | exact Z.at10 | exact Z.at11 | exact Z.at12) (by first | (simp; done) | (simp; omega)) ?_ | refine Z.ZO.storeR rfl rfl hs Try.sizeOf3 rfl rfl rfl (by first | exact SX.at0 | exact SX.at1 | exact SX.at2 | exact SX.at3 | exact SX.at4 | exact SX.at5 | exact Z.at6 | exact Z.at7 | exact Z.at8 | exact Z.at9 | exact Z.at10 | exact Z.at11 | exact Z.at12) (by first | omega | (simp [ints_length]; done) | (simp [ints_length]; omega)) ?_
  clear hs; intro ws hs
  simp only [Nat.zero_add, Nat.add_zero, Nat.reduceAdd, List.set_cons_zero, List.set_cons_succ, List.setIfInBounds_toArray] at hs
  refine Z.l rfl rfl (by rfl) (Z.keepS hs) (Z.Yd.elemA rfl rfl Try.underlying78 Try.sizeOf3 (fun hG => ⟨(by first | omega | (have hG' := Z.gh rfl hG; simp at hG'; omega)), (by first | omega | (have hG' := Z.gh rfl hG; simp at hG'; omega))⟩)) ?_
  refine Z.le rfl trivial ?_
  first | refine Z.ZO.store rfl rfl hs Try.sizeOf3 rfl rfl rfl (by first | exact SX.at0 | exact SX.at1 | exact SX.at2 | exact SX.at3 | exact SX.at4 | exact SX.at5 | exact Z.at6 | exact Z.at7 | exact Z.at8 | exact Z.at9 | exact Z.at10 | exact Z.at11 | exact Z.at12) (by first | (simp; done) | (simp; omega)) ?_ | refine Z.ZO.storeR rfl rfl hs Try.sizeOf3 rfl rfl rfl (by first | exact SX.at0 | exact SX.at1 | exact SX.at2 | exact SX.at3 | exact SX.at4 | exact SX.at5 | exact Z.at6 | exact Z.at7 | exact Z.at8 | exact Z.at9 | exact Z.at10 | exact Z.at11 | exact Z.at12) (by first | omega | (simp [ints_length]; done) | (simp [ints_length]; omega)) ?_
  clear hs; intro ws hs
  simp only [Nat.zero_add, Nat.add_zero, Nat.reduceAdd, List.set_cons_zero, List.set_cons_succ, List.setIfInBounds_toArray] at hs
  refine Z.lnil ?_
  refine Z.only [0, 1, 2, 7] rfl ?_
  refine Z.nthen ?_
  refine Z.seq ?_
  refine Z.seq ?_
  refine Z.region ?_
  refine Z.lb 1 rfl ?_
  refine Z.lnil ?_
  refine Z.only [0, 1, 2, 7, 8] rfl ?_
  refine Z.nthen ?_
  refine Z.block ?_
  refine Z.loopk (ι := Nat) [0, 1, 2, 7] rfl (fun j => [(8, [], .int .i64 (j : Int))]) (fun j wr => j ≤ N ∧ SX.St w [] wr [SX.Ent.blk g7 78 (bstC n y k j)]) (fun j => N - j) 0 (by refine ⟨?_, trivial⟩ <;> (first | rfl | (refine Z.lookv rfl ?_; simp; done) | (refine Z.lookv rfl ?_; simp; omega))) ⟨by omega, hs⟩ ?_
  clear hs
  rintro j w1 ⟨hj, hs⟩
  refine Z.only [0, 1, 2, 7, 8] rfl ?_
  refine Z.seq ?_
  refine Z.seq ?_
  refine Z.region ?_
  refine Z.lb 2 rfl ?_
  refine Z.l rfl rfl (by rfl) (Z.keepS hs) (Z.Yd.quo rfl rfl (by intro hG; first | decide | omega) (fun _ => half2 n hn3)) ?_
  refine Z.l rfl rfl (by rfl) (Z.keepS hs) (Z.Yd.shl rfl rfl (by intro hG; first | decide | omega) (fun _ => hsh)) ?_
  refine Z.lb 1 rfl ?_
  refine Z.lnil ?_
  refine Z.only [0, 1, 2, 7, 8, 17] rfl ?_
  refine Z.nthen ?_
  refine Z.cond rfl (fun hc4 => ?_) (fun hc4 => ?_)
  · first
      | (exfalso; simp at hc4 <;> omega)
      | (
        (try simp at hc4)
        have hlv : rlev n ((j : Int) % 2) ((j : Int) / 2 % 2) ((j : Int) / 4 % 2) = lev (grp n j) := by
          rw [lev_grp n hn hn3]
          unfold bitOf
          congr 1 <;> omega
        have hll := lev_lt n j hn hn3
        have hq := sq_bd n y j hn hn3 hy1 hy2
        refine Z.skip ?_
        refine Z.nthen ?_
        refine Z.seq ?_
        refine Z.block ?_
        refine Z.seq ?_
        refine Z.region ?_
        refine Z.lb 3 rfl ?_
        refine Z.l rfl rfl (by rfl) (Z.keepS hs) (Z.Yd.rem rfl rfl (by intro hG; first | decide | omega) (by intro hG; first | exact Z.tmodn (by omega) | exact rfl)) ?_
        refine Z.lb 1 rfl ?_
        refine Z.l rfl rfl (by rfl) (Z.keepS hs) (Z.Yd.quo rfl rfl (by intro hG; first | decide | omega) (by intro hG; first | exact Z.qi64 ⟨by omega, by omega⟩ (by omega) | exact rfl)) ?_
        refine Z.l rfl rfl (by rfl) (Z.keepS hs) (Z.Yd.rem rfl rfl (by intro hG; first | decide | omega) (by intro hG; first | exact Z.tmodn (by omega) | exact rfl)) ?_
        refine Z.lb 1 rfl ?_
        refine Z.l rfl rfl (by rfl) (Z.keepS hs) (Z.Yd.quo rfl rfl (by intro hG; first | decide | omega) (by intro hG; first | exact Z.qi64 ⟨by omega, by omega⟩ (by omega) | exact rfl)) ?_
        refine Z.l rfl rfl (by rfl) (Z.keepS hs) (Z.Yd.rem rfl rfl (by intro hG; first | decide | omega) (by intro hG; first | exact Z.tmodn (by omega) | exact rfl)) ?_
        refine Z.le rfl trivial ?_
        refine Z.ZO.call rfl rfl (by rfl) rfl rfl Try.call31 rfl (rlevel_any n _ _ _ _ hn hn3 (by omega) (by omega) (by omega)) ?_
        rintro v6_10 w6_10 ⟨rfl, hy⟩
        replace hs := hs.call hy
        clear hy
        try simp only [List.cons_append, List.nil_append, List.append_nil] at hs
        rw [hlv]
        refine Z.l rfl rfl (by rfl) (Z.keepS hs) (Z.Yd.mul rfl rfl (fun hG => Z.wi64 (by first | omega | (have hG' := Z.gh rfl hG; simp at hG'; omega)))) ?_
        refine Z.l rfl rfl (by rfl) (Z.keepS hs) (Z.Yd.sub rfl rfl (fun hG => Z.wi64 (by first | omega | (have hG' := Z.gh rfl hG; simp at hG'; omega)))) ?_
        refine Z.lb 1 rfl ?_
        refine Z.lnil ?_
        refine Z.only [0, 1, 2, 7, 8, 9] rfl ?_
        refine Z.nthen ?_
        refine Z.seq ?_
        refine Z.region ?_
        refine Z.lb 2 rfl ?_
        refine Z.l rfl rfl (by rfl) (Z.keepS hs) (Z.Yd.shr rfl rfl (by intro hG; first | decide | omega) (fun _ => rfl)) ?_
        refine Z.l rfl rfl (by rfl) (Z.keepS hs) (Z.Yd.rem rfl rfl (by intro hG; first | decide | omega) (fun _ => shr_bit j k (by omega))) ?_
        refine Z.lb 1 rfl ?_
        refine Z.lnil ?_
        refine Z.only [0, 1, 2, 7, 8, 9, 10] rfl ?_
        refine Z.nthen ?_
        refine Z.region ?_
        refine Z.lb 2 rfl ?_
        have hbk := bitOf_bd j k
        refine Z.l rfl rfl (by rfl) (Z.keepS hs) (Z.Yd.elemA rfl rfl Try.underlying78 Try.sizeOf3 (fun hG => ⟨(by first | omega | (have hG' := Z.gh rfl hG; simp at hG'; omega)), (by first | omega | (have hG' := Z.gh rfl hG; simp at hG'; omega))⟩)) ?_
        refine Z.l rfl rfl (by rfl) (Z.keepS hs) (Z.Yd.load rfl Try.isAgg3 (fun _ => Z.cellB (by first | ((repeat (first | exact List.mem_cons_self | refine List.mem_cons_of_mem _ ?_ | refine List.mem_append_right _ ?_)); done) | fail) (bstC_get n y k j j))) ?_
        refine Z.lb 2 rfl ?_
        refine Z.l rfl rfl (by rfl) (Z.keepS hs) (Z.Yd.mul rfl rfl (fun _ => Z.wi64 (by unfold sq at hq; omega))) ?_
        refine Z.l rfl rfl (by rfl) (Z.keepS hs) (Z.Yd.min rfl rfl) ?_
        refine Z.l rfl rfl (by rfl) (Z.keepS hs) (Z.Yd.elemA rfl rfl Try.underlying78 Try.sizeOf3 (fun hG => ⟨(by first | omega | (have hG' := Z.gh rfl hG; simp at hG'; omega)), (by first | omega | (have hG' := Z.gh rfl hG; simp at hG'; omega))⟩)) ?_
        refine Z.le rfl trivial ?_
        first | refine Z.ZO.store rfl rfl hs Try.sizeOf3 rfl rfl rfl (by first | exact SX.at0 | exact SX.at1 | exact SX.at2 | exact SX.at3 | exact SX.at4 | exact SX.at5 | exact Z.at6 | exact Z.at7 | exact Z.at8 | exact Z.at9 | exact Z.at10 | exact Z.at11 | exact Z.at12) (by first | (simp; done) | (simp; omega)) ?_ | refine Z.ZO.storeR rfl rfl hs Try.sizeOf3 rfl rfl rfl (by first | exact SX.at0 | exact SX.at1 | exact SX.at2 | exact SX.at3 | exact SX.at4 | exact SX.at5 | exact Z.at6 | exact Z.at7 | exact Z.at8 | exact Z.at9 | exact Z.at10 | exact Z.at11 | exact Z.at12) (by first | omega | (simp [ints_length]; done) | (simp [ints_length]; omega)) ?_
        clear hs; intro ws hs
        simp only [Nat.zero_add, Nat.add_zero, Nat.reduceAdd, List.set_cons_zero, List.set_cons_succ, List.setIfInBounds_toArray] at hs
        refine Z.lnil ?_
        refine Z.only [0, 1, 2, 7, 8] rfl ?_
        refine Z.nblock ?_
        refine Z.nthen ?_
        refine Z.region ?_
        refine Z.lb 1 rfl ?_
        refine Z.l rfl rfl (by rfl) (Z.keepS hs) (Z.Yd.add rfl rfl (fun hG => Z.wi64 (by first | omega | (have hG' := Z.gh rfl hG; simp at hG'; omega)))) ?_
        refine Z.lb 1 rfl ?_
        refine Z.lnil ?_
        refine Z.only [0, 1, 2, 7, 8] rfl ?_
        refine Z.nthen ?_
        rw [bstC_succ] at hs
        exact Z.again (j + 1) (by refine ⟨?_, ?_, ?_, ?_, ?_, trivial⟩ <;> (first | rfl | (refine Z.lookv rfl ?_; simp; done) | (refine Z.lookv rfl ?_; simp; omega))) ⟨by omega, hs⟩ (by omega)
        )
  · first
      | (exfalso; simp at hc4 <;> omega)
      | (
        (try simp at hc4)
        refine Z.exit ?_
        refine Z.xthen ?_
        refine Z.xthen ?_
        refine Z.xblock ?_
        refine Z.nthen ?_
        refine Z.seq ?_
        refine Z.region ?_
        refine Z.l rfl rfl (by rfl) (Z.keepS hs) (Z.Yd.elemA rfl rfl Try.underlying78 Try.sizeOf3 (fun hG => ⟨(by first | omega | (have hG' := Z.gh rfl hG; simp at hG'; omega)), (by first | omega | (have hG' := Z.gh rfl hG; simp at hG'; omega))⟩)) ?_
        refine Z.l rfl rfl (by rfl) (Z.keepS hs) (Z.Yd.load rfl Try.isAgg3 (fun _ => Z.cellB (by first | ((repeat (first | exact List.mem_cons_self | refine List.mem_cons_of_mem _ ?_ | refine List.mem_append_right _ ?_)); done) | fail) rfl)) ?_
        refine Z.l rfl rfl (by rfl) (Z.keepS hs) (Z.Yd.elemA rfl rfl Try.underlying78 Try.sizeOf3 (fun hG => ⟨(by first | omega | (have hG' := Z.gh rfl hG; simp at hG'; omega)), (by first | omega | (have hG' := Z.gh rfl hG; simp at hG'; omega))⟩)) ?_
        refine Z.l rfl rfl (by rfl) (Z.keepS hs) (Z.Yd.load rfl Try.isAgg3 (fun _ => Z.cellB (by first | ((repeat (first | exact List.mem_cons_self | refine List.mem_cons_of_mem _ ?_ | refine List.mem_append_right _ ?_)); done) | fail) rfl)) ?_
        have hb0 := bst_bd n y k 0 hn hn3 hy1 hy2 j
        have hb1 := bst_bd n y k 1 hn hn3 hy1 hy2 j
        refine Z.l rfl rfl (by rfl) (Z.keepS hs) (Z.Yd.sub rfl rfl (fun hG => Z.wi64 (by first | omega | (have hG' := Z.gh rfl hG; simp at hG'; omega)))) ?_
        refine Z.l rfl rfl (by rfl) (Z.keepS hs) (Z.Yd.quo rfl rfl (by intro hG; first | decide | omega) (fun _ => tdiv64 (by omega) (by omega))) ?_
        refine Z.l rfl rfl (by rfl) (Z.keepS hs) (Z.Yd.min rfl rfl) ?_
        refine Z.l rfl rfl (by rfl) (Z.keepS hs) (Z.Yd.max rfl rfl) ?_
        refine Z.lb 1 rfl ?_
        refine Z.lnil ?_
        refine Z.only [6] rfl ?_
        refine Z.nthen ?_
        refine Z.ret ?_
        -- ret#0
        refine Z.out1 (by exact ⟨rfl, trivial⟩) ?_
        obtain rfl : j = N := by omega
        have e0 := bst_dst n y k 0 hn hn3 hk (.inl rfl) hy1 hy2
        have e1 := bst_dst n y k 1 hn hn3 hk (.inr rfl) hy1 hy2
        rw [← hN] at e0 e1
        rw [e0, e1]
        exact ⟨_, rfl, rfl, hs.sub (List.nil_sublist _)⟩
        )

set_option maxRecDepth 100000 in
theorem rsofts_any (n : Nat) (p : Int × Int) (w : World) (hn : 1 ≤ n) (hn3 : n ≤ 3) (hp : ins p = true) :
    Calls Try.prog 19 #[.int .i64 ((2 * n : Nat) : Int), .agg #[.int .i64 p.1, .int .i64 p.2]] w (SX.Ret fun r w' => SX.St w [] w' [SX.Ent.row r 3 1 (2 * n) (ints .i64 (ilv n p n))]) := by
  have hs := SX.St.start w
  obtain ⟨h1, h2, h3, h4⟩ := ins_bd hp
  refine Z.enter Try.func19 rfl Try.ntmps19 rfl rfl ?_
  refine Z.seq ?_
  refine Z.region ?_
  refine Z.le rfl trivial ?_
  refine Z.ZO.box rfl rfl (by rfl) rfl rfl hs ?_
  clear hs; intro g3 w3 hs
  refine Z.lb 1 rfl ?_
  refine Z.lnil ?_
  refine Z.only [0, 3] rfl ?_
  refine Z.nthen ?_
  refine Z.seq ?_
  refine Z.region ?_
  refine Z.lb 1 rfl ?_
  refine Z.lnil ?_
  refine Z.only [0, 3, 5] rfl ?_
  refine Z.nthen ?_
  refine Z.seq ?_
  refine Z.seq ?_
  refine Z.region ?_
  refine Z.lb 1 rfl ?_
  refine Z.lnil ?_
  refine Z.only [0, 3, 5, 6] rfl ?_
  refine Z.nthen ?_
  refine Z.block ?_
  refine Z.loopk (ι := Nat × Value) [0, 3] rfl (fun k => [(5, [], k.2), (6, [], .int .i64 (k.1 : Int))]) (fun k wr => k.1 ≤ n ∧ SX.St w [] wr [SX.Ent.row k.2 3 1 (2 * k.1) (ints .i64 (ilv n p k.1)), SX.Ent.blk g3 32 #[.int .i64 p.1, .int .i64 p.2]]) (fun k => n - k.1) (0, .slice none 0 0) (by refine ⟨?_, ?_, trivial⟩ <;> (first | rfl | (refine Z.lookv rfl ?_; simp; done) | (refine Z.lookv rfl ?_; simp; omega))) ⟨by omega, hs.nil _ _⟩ ?_
  clear hs
  rintro ⟨k, sv⟩ w1 ⟨hkn, hs⟩
  refine Z.only [0, 3, 5, 6] rfl ?_
  dsimp only at hs
  dsimp only at hkn
  refine Z.seq ?_
  refine Z.seq ?_
  refine Z.region ?_
  refine Z.lb 2 rfl ?_
  refine Z.l rfl rfl (by rfl) (Z.keepS hs) (Z.Yd.quo rfl rfl (by intro hG; first | decide | omega) (fun _ => half2 n hn3)) ?_
  refine Z.lb 1 rfl ?_
  refine Z.lnil ?_
  refine Z.only [0, 3, 5, 6, 10] rfl ?_
  refine Z.nthen ?_
  refine Z.cond rfl (fun hc3 => ?_) (fun hc3 => ?_)
  · first
      | (exfalso; simp at hc3 <;> omega)
      | (
        (try simp at hc3)
        refine Z.skip ?_
        refine Z.nthen ?_
        refine Z.seq ?_
        refine Z.block ?_
        refine Z.drawL [SX.Ent.blk g3 32 #[.int .i64 p.1, .int .i64 p.2]] (fun _ => true) mixed hs ?_
        clear hs; intro wd5 hs
        refine Z.tb [0, 1] (by kernel_rfl) rfl ⟨_, hs, by first | (simp; done) | exact fun e he => List.mem_append_right _ he⟩ rfl ?_
        refine Z.t 2 rfl rfl rfl (by rfl) (by kernel_rfl) ⟨_, hs, by first | (simp; done) | exact fun e he => List.mem_append_right _ he⟩ (Z.Yd.fieldA (m := 0) rfl (by kernel_rfl)) ?_
        refine Z.t 3 rfl rfl rfl (by rfl) (by kernel_rfl) ⟨_, hs, by first | (simp; done) | exact fun e he => List.mem_append_right _ he⟩ (by first | exact Z.Yd.load rfl Try.isAgg3 (fun _ => Z.cellB (by first | ((repeat (first | exact List.mem_cons_self | refine List.mem_cons_of_mem _ ?_ | refine List.mem_append_right _ ?_)); done) | fail) rfl) | exact Z.Yd.load rfl Try.isAgg3 (fun _ => Z.cellO (by assumption) (by simp) (by assumption)) | fail "load 5.3") ?_
        refine Z.tb [4, 6] (by kernel_rfl) rfl ⟨_, hs, by first | (simp; done) | exact fun e he => List.mem_append_right _ he⟩ rfl ?_
        refine Z.t 7 rfl rfl rfl (by rfl) (by kernel_rfl) ⟨_, hs, by first | (simp; done) | exact fun e he => List.mem_append_right _ he⟩ (Z.Yd.fieldA (m := 1) rfl (by kernel_rfl)) ?_
        refine Z.t 8 rfl rfl rfl (by rfl) (by kernel_rfl) ⟨_, hs, by first | (simp; done) | exact fun e he => List.mem_append_right _ he⟩ (by first | exact Z.Yd.load rfl Try.isAgg3 (fun _ => Z.cellB (by first | ((repeat (first | exact List.mem_cons_self | refine List.mem_cons_of_mem _ ?_ | refine List.mem_append_right _ ?_)); done) | fail) rfl) | exact Z.Yd.load rfl Try.isAgg3 (fun _ => Z.cellO (by assumption) (by simp) (by assumption)) | fail "load 5.8") ?_
        refine Z.tb [9] (by kernel_rfl) rfl ⟨_, hs, by first | (simp; done) | exact fun e he => List.mem_append_right _ he⟩ rfl ?_
        refine Z.tn 5 rfl rfl (by kernel_rfl) rfl trivial ?_
        refine Z.ZO.call rfl rfl (by rfl) rfl rfl Try.call38 rfl (rsoft_any n k p.1 _ hn hn3 (by omega) h1 h2) ?_
        rintro v5_5 w5_5 ⟨rfl, hy⟩
        replace hs := hs.call hy
        clear hy
        try simp only [List.cons_append, List.nil_append, List.append_nil] at hs
        refine Z.tk (Dn := fun _ => true) (i := 5) (fun _ => ⟨_, hs, by first | (simp; done) | exact fun e he => List.mem_append_right _ he⟩) ?_
        refine Z.tn 10 rfl rfl (by kernel_rfl) rfl trivial ?_
        refine Z.ZO.call rfl rfl (by rfl) rfl rfl Try.call38 rfl (rsoft_any n k p.2 _ hn hn3 (by omega) h3 h4) ?_
        rintro v5_10 w5_10 ⟨rfl, hy⟩
        replace hs := hs.call hy
        clear hy
        try simp only [List.cons_append, List.nil_append, List.append_nil] at hs
        refine Z.tk (Dn := fun _ => true) (i := 10) (fun _ => ⟨_, hs, by first | (simp; done) | exact fun e he => List.mem_append_right _ he⟩) ?_
        refine Z.tn 11 rfl rfl (by kernel_rfl) rfl trivial ?_
        refine Z.ZO.lit rfl rfl (by rfl) rfl (by intro W; go_simp; exact rfl) hs ?_
        clear hs; intro g24 w24 hs
        refine Z.tk (Dn := fun _ => true) (i := 11) (fun _ => ⟨_, hs, by first | (simp; done) | exact fun e he => List.mem_append_right _ he⟩) ?_
        refine Z.tn 12 rfl rfl (by kernel_rfl) rfl trivial ?_
        refine Z.ZO.append (i0 := Try.t3) (size := 1) (bytes := 8) rfl rfl (by rfl) hs Try.underlying38 (by kernel_rfl) rfl rfl rfl rfl (by decide) rfl rfl (by first | exact SX.at0 | exact SX.at1 | exact SX.at2 | exact SX.at3 | exact SX.at4 | exact SX.at5 | exact Z.at6 | exact Z.at7 | exact Z.at8 | exact Z.at9 | exact Z.at10 | exact Z.at11 | exact Z.at12) (by first | exact SX.at0 | exact SX.at1 | exact SX.at2 | exact SX.at3 | exact SX.at4 | exact SX.at5 | exact Z.at6 | exact Z.at7 | exact Z.at8 | exact Z.at9 | exact Z.at10 | exact Z.at11 | exact Z.at12) (by first | rfl | simp) (by simp [Value.oneCell']) (by decide) (by unfold maxLen; omega) (by omega) ?_
        clear hs; intro g25 cap25 w25 hs
        simp only [List.set_cons_zero, List.set_cons_succ, List.eraseIdx_cons_zero, List.eraseIdx_cons_succ] at hs
        refine Z.tk (Dn := fun _ => true) (i := 12) (fun _ => ⟨_, hs, by first | (simp; done) | exact fun e he => List.mem_append_right _ he⟩) ?_
        refine Z.tb [13] (by kernel_rfl) rfl ⟨_, hs, by first | (simp; done) | exact fun e he => List.mem_append_right _ he⟩ rfl ?_
        refine Z.td (by rfl) (by kernel_rfl) ?_
        refine Z.only [0, 3, 5, 6] rfl ?_
        refine Z.nblock ?_
        refine Z.nthen ?_
        refine Z.region ?_
        refine Z.lb 1 rfl ?_
        refine Z.l rfl rfl (by rfl) (Z.keepS hs) (Z.Yd.add rfl rfl (fun hG => Z.wi64 (by first | omega | (have hG' := Z.gh rfl hG; simp at hG'; omega)))) ?_
        refine Z.lb 1 rfl ?_
        refine Z.lnil ?_
        refine Z.only [0, 3, 5, 6] rfl ?_
        refine Z.nthen ?_
        have e : ints .i64 (ilv n p k) ++ [.int .i64 (sfv n p.1 k), .int .i64 (sfv n p.2 k)] = ints .i64 (ilv n p (k + 1)) := by rw [ilv_succ]; simp [ints]
        rw [e] at hs
        exact Z.again (k + 1, _) (by refine ⟨?_, ?_, ?_, ?_, trivial⟩ <;> (first | rfl | (refine Z.lookv rfl ?_; simp; done) | (refine Z.lookv rfl ?_; simp; omega))) ⟨by simp only; omega, hs⟩ (by simp only; omega)
        )
  · first
      | (exfalso; simp at hc3 <;> omega)
      | (
        (try simp at hc3)
        refine Z.exit ?_
        refine Z.xthen ?_
        refine Z.xthen ?_
        refine Z.xblock ?_
        refine Z.nthen ?_
        refine Z.seq ?_
        refine Z.region ?_
        refine Z.lb 2 rfl ?_
        refine Z.lnil ?_
        refine Z.only [4] rfl ?_
        refine Z.nthen ?_
        refine Z.ret ?_
        -- ret#0
        refine Z.out1 (by exact ⟨rfl, trivial⟩) ?_
        obtain rfl : k = n := by omega
        exact ⟨_, rfl, hs.sub (List.cons_sublist_cons.2 (List.nil_sublist _))⟩
        )
end Go.Proofs.Ythncbdoiilgnhaa
