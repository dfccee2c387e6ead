/- The document's reader: Get, GetBytes, Align, End. -/
import Derived.Test.YtggikablbdhniaaFy
namespace Go.Proofs.Ytggikablbdhniaa
open Go.RowKit
set_option linter.unusedSimpArgs false
set_option linter.unusedVariables false

theorem bits_cut {l : List Int} {a n : Nat} (h : a + n ≤ l.length * 8) : ints .u8 (bits (bitsAt l a n)) <+: (ints .u8 (bits (unb l))).drop (a * 1) := by
  rw [Nat.mul_one]
  have e : (ints .u8 (bits (unb l))).drop a = ints .u8 (bits ((unb l).drop a)) := by simp [ints, bits]
  rw [e]
  unfold bitsAt
  have e2 : ints .u8 (bits (((unb l).drop a).take n)) = (ints .u8 (bits ((unb l).drop a))).take n := by simp [ints, bits]
  rw [e2]
  exact List.take_prefix _ _

set_option maxRecDepth 100000 in
theorem refget (A : Option Addr) (n c : Nat) (l : List Int) (a : Nat) (wd : Int) (w : World) (hx : Sl w A (ints .u8 (bits (unb l)))) (hn : n = l.length * 8) (hc : n ≤ c) (hll : l.length ≤ 1000000) (ha : a ≤ 8 * l.length) :
    Calls Try.prog 45 #[.agg #[.slice A n c, .int .i64 (a : Int)], .int .i64 wd] w (SX.Ret fun r w' => r = .tuple #[.agg #[.slice A n c, .int .i64 (getA l a wd : Int)], .int .u64 (getV l a wd), .int .i64 (getE l a wd)] ∧ SX.St w [] w' []) := by
  have hs := SX.St.start w
  refine Z.enter Try.func45 rfl Try.ntmps45 rfl rfl ?_
  refine Z.seq ?_
  refine Z.region ?_
  refine Z.le rfl trivial ?_
  refine Z.ZO.box rfl rfl (by rfl) rfl rfl hs ?_
  clear hs; intro g2 w2 hs
  refine Z.le rfl trivial ?_
  refine Z.ZO.alloc rfl rfl (by rfl) Try.zeroValue65 rfl hs ?_
  clear hs; intro g4 w4 hs
  refine Z.lb 2 rfl ?_
  refine Z.lnil ?_
  refine Z.only [1, 2, 4] rfl ?_
  refine Z.nthen ?_
  refine Z.seq ?_
  refine Z.seq ?_
  refine Z.region ?_
  refine Z.lb 6 rfl ?_
  refine Z.lnil ?_
  refine Z.only [1, 2, 4, 14] rfl ?_
  refine Z.nthen ?_
  refine Z.cond rfl (fun hc1 => ?_) (fun hc1 => ?_)
  · first
      | (exfalso; simp at hc1 <;> omega)
      | (
        (try simp at hc1)
        refine Z.seq ?_
        refine Z.region ?_
        refine Z.l rfl rfl (by rfl) (Z.keepS hs) (by first | exact Z.Yd.loadA _ rfl Try.isAgg65 (fun _ => Z.cellsB (by first | ((repeat (first | exact List.mem_cons_self | refine List.mem_cons_of_mem _ ?_ | refine List.mem_append_right _ ?_)); done) | fail)) (by exact Try.sizeOf65) | fail "load 2.0") ?_
        refine Z.le rfl trivial ?_
        refine Z.ZO.storeA rfl rfl hs rfl rfl (by kernel_rfl) (by simp [Value.oneCell']) (by first | exact SX.at0 | exact SX.at1 | exact SX.at2 | exact SX.at3 | exact SX.at4 | exact SX.at5 | exact Z.at6 | exact Z.at7 | exact Z.at8 | exact Z.at9 | exact Z.at10 | exact Z.at11 | exact Z.at12) (by rfl) ?_
        clear hs; intro ws hs
        simp only [Nat.zero_add, Nat.add_zero, Nat.reduceAdd, List.set_cons_zero, List.set_cons_succ, List.setIfInBounds_toArray] at hs
        refine Z.lb 2 rfl ?_
        refine Z.lnil ?_
        refine Z.only [4, 5, 6] rfl ?_
        refine Z.nthen ?_
        refine Z.ret ?_
        repeat (first | refine Z.rthen ?_ | refine Z.rblock ?_ | refine Z.rscope ?_)
        -- ret#0
        refine Z.out3 (by exact ⟨⟨_, rfl, Z.rvcA hs Try.isAgg65 (by first | ((repeat (first | exact List.mem_cons_self | refine List.mem_cons_of_mem _ ?_ | refine List.mem_append_right _ ?_)); done) | fail) (by exact Try.sizeOf65)⟩, rfl, rfl, trivial⟩) ?_
        have e : getE l a wd = 2 := by unfold getE; rw [if_pos (by omega)]
        refine ⟨_, rfl, ?_, hs.sub (List.nil_sublist _)⟩
        unfold getA getV
        rw [e]
        rfl
        )
  · first
      | (exfalso; simp at hc1 <;> omega)
      | (
        (try simp at hc1)
        refine Z.skip ?_
        refine Z.nthen ?_
        refine Z.seq ?_
        refine Z.seq ?_
        refine Z.region ?_
        refine Z.lb 1 rfl ?_
        refine Z.l rfl rfl (by rfl) (Z.keepS hs) (Z.Yd.fieldA (m := 0) rfl (by kernel_rfl)) ?_
        refine Z.l rfl rfl (by rfl) (Z.keepS hs) (by first | exact Z.Yd.load rfl Try.isAgg25 (fun _ => Z.cellB (by first | ((repeat (first | exact List.mem_cons_self | refine List.mem_cons_of_mem _ ?_ | refine List.mem_append_right _ ?_)); done) | fail) rfl) | exact Z.Yd.load rfl Try.isAgg25 (fun _ => Z.cellO (by assumption) (by simp) (by assumption)) | fail "load 3.2") ?_
        refine Z.l rfl rfl (by rfl) (Z.keepS hs) (Z.Yd.lenS rfl Try.underlying25) ?_
        refine Z.l rfl rfl (by rfl) (Z.keepS hs) (Z.Yd.fieldA (m := 1) rfl (by kernel_rfl)) ?_
        refine Z.l rfl rfl (by rfl) (Z.keepS hs) (by first | exact Z.Yd.load rfl Try.isAgg3 (fun _ => Z.cellB (by first | ((repeat (first | exact List.mem_cons_self | refine List.mem_cons_of_mem _ ?_ | refine List.mem_append_right _ ?_)); done) | fail) rfl) | exact Z.Yd.load rfl Try.isAgg3 (fun _ => Z.cellO (by assumption) (by simp) (by assumption)) | fail "load 3.5") ?_
        refine Z.l rfl rfl (by rfl) (Z.keepS hs) (Z.Yd.sub rfl rfl (fun hG => Z.wi64 (by first | omega | (have hG' := Z.gh rfl hG; simp at hG'; omega)))) ?_
        refine Z.lb 1 rfl ?_
        refine Z.lnil ?_
        refine Z.only [1, 2, 4, 23] rfl ?_
        refine Z.nthen ?_
        refine Z.cond rfl (fun hc3 => ?_) (fun hc3 => ?_)
        · first
            | (exfalso; simp at hc3 <;> omega)
            | (
              (try simp at hc3)
              refine Z.seq ?_
              refine Z.region ?_
              refine Z.l rfl rfl (by rfl) (Z.keepS hs) (by first | exact Z.Yd.loadA _ rfl Try.isAgg65 (fun _ => Z.cellsB (by first | ((repeat (first | exact List.mem_cons_self | refine List.mem_cons_of_mem _ ?_ | refine List.mem_append_right _ ?_)); done) | fail)) (by exact Try.sizeOf65) | fail "load 4.0") ?_
              refine Z.le rfl trivial ?_
              refine Z.ZO.storeA rfl rfl hs rfl rfl (by kernel_rfl) (by simp [Value.oneCell']) (by first | exact SX.at0 | exact SX.at1 | exact SX.at2 | exact SX.at3 | exact SX.at4 | exact SX.at5 | exact Z.at6 | exact Z.at7 | exact Z.at8 | exact Z.at9 | exact Z.at10 | exact Z.at11 | exact Z.at12) (by rfl) ?_
              clear hs; intro ws hs
              simp only [Nat.zero_add, Nat.add_zero, Nat.reduceAdd, List.set_cons_zero, List.set_cons_succ, List.setIfInBounds_toArray] at hs
              refine Z.lb 2 rfl ?_
              refine Z.lnil ?_
              refine Z.only [4, 5, 6] rfl ?_
              refine Z.nthen ?_
              refine Z.ret ?_
              repeat (first | refine Z.rthen ?_ | refine Z.rblock ?_ | refine Z.rscope ?_)
              -- ret#1
              refine Z.out3 (by exact ⟨⟨_, rfl, Z.rvcA hs Try.isAgg65 (by first | ((repeat (first | exact List.mem_cons_self | refine List.mem_cons_of_mem _ ?_ | refine List.mem_append_right _ ?_)); done) | fail) (by exact Try.sizeOf65)⟩, rfl, rfl, trivial⟩) ?_
              have e : getE l a wd = 5 := by unfold getE; rw [if_neg (by omega), if_pos (by omega)]
              refine ⟨_, rfl, ?_, hs.sub (List.nil_sublist _)⟩
              unfold getA getV
              rw [e]
              rfl
              )
        · first
            | (exfalso; simp at hc3 <;> omega)
            | (
              (try simp at hc3)
              refine Z.skip ?_
              refine Z.nthen ?_
              refine Z.seq ?_
              refine Z.region ?_
              have e : getE l a wd = 0 := by unfold getE; rw [if_neg (by omega), if_neg (by omega)]
              obtain ⟨wd, rfl⟩ := Int.eq_ofNat_of_zero_le (show 0 ≤ wd by omega)
              have hbl := bitsAt_length (l := l) (a := a) (n := wd) (by omega)
              have hbl2 := unb_length l
              have hcc : c = a → ints .u8 (bits (bitsAt l a wd)) = [] := fun e0 => by
                obtain rfl : wd = 0 := by omega
                rfl
              refine Z.l rfl rfl (by rfl) (Z.keepS hs) (Z.Yd.fieldA (m := 0) rfl (by kernel_rfl)) ?_
              refine Z.l rfl rfl (by rfl) (Z.keepS hs) (by first | exact Z.Yd.load rfl Try.isAgg25 (fun _ => Z.cellB (by first | ((repeat (first | exact List.mem_cons_self | refine List.mem_cons_of_mem _ ?_ | refine List.mem_append_right _ ?_)); done) | fail) rfl) | exact Z.Yd.load rfl Try.isAgg25 (fun _ => Z.cellO (by assumption) (by simp) (by assumption)) | fail "load 5.1") ?_
              refine Z.l rfl rfl (by rfl) (Z.keepS hs) (Z.Yd.fieldA (m := 1) rfl (by kernel_rfl)) ?_
              refine Z.l rfl rfl (by rfl) (Z.keepS hs) (by first | exact Z.Yd.load rfl Try.isAgg3 (fun _ => Z.cellB (by first | ((repeat (first | exact List.mem_cons_self | refine List.mem_cons_of_mem _ ?_ | refine List.mem_append_right _ ?_)); done) | fail) rfl) | exact Z.Yd.load rfl Try.isAgg3 (fun _ => Z.cellO (by assumption) (by simp) (by assumption)) | fail "load 5.3") ?_
              refine Z.l rfl rfl (by rfl) (Z.keepS hs) (Z.Yd.fieldA (m := 1) rfl (by kernel_rfl)) ?_
              refine Z.l rfl rfl (by rfl) (Z.keepS hs) (by first | exact Z.Yd.load rfl Try.isAgg3 (fun _ => Z.cellB (by first | ((repeat (first | exact List.mem_cons_self | refine List.mem_cons_of_mem _ ?_ | refine List.mem_append_right _ ?_)); done) | fail) rfl) | exact Z.Yd.load rfl Try.isAgg3 (fun _ => Z.cellO (by assumption) (by simp) (by assumption)) | fail "load 5.5") ?_
              refine Z.lb 1 rfl ?_
              refine Z.l rfl rfl (by rfl) (Z.keepS hs) (Z.Yd.add rfl rfl (fun hG => Z.wi64 (by first | omega | (have hG' := Z.gh rfl hG; simp at hG'; omega)))) ?_
              refine Z.l rfl rfl (by rfl) (Z.keepS hs) (Z.Yd.cut a (a + wd) rfl (Z.lvl_some rfl (by intro hG; first | rfl | exact (by first | omega | (have hG' := Z.gh rfl hG; simp at hG'; omega)))) (Z.lvl_some rfl (by intro hG; first | rfl | exact (by first | omega | (have hG' := Z.gh rfl hG; simp at hG'; omega)))) Try.underlying25 Try.sizeOf5 (fun hG => ⟨(by first | omega | (have hG' := Z.gh rfl hG; simp at hG'; omega)), (by first | omega | (have hG' := Z.gh rfl hG; simp at hG'; omega))⟩)) ?_
              refine Z.le rfl trivial ?_
              refine Z.ZO.call rfl rfl (by rfl) rfl rfl Try.call57 rfl (uint01 (slA A c a 1) _ (c - a) (bitsAt l a wd) _ ((hx.cut (bits_cut (by omega)) hcc).st (hs.sub (List.nil_sublist _))) (by rw [hbl]; omega) (by omega)) ?_
              rintro v5_9 w5_9 ⟨rfl, hy⟩
              replace hs := hs.call hy
              clear hy
              try simp only [List.cons_append, List.nil_append, List.append_nil] at hs
              refine Z.lb 5 rfl ?_
              refine Z.lnil ?_
              refine Z.only [1, 2, 4, 7] rfl ?_
              refine Z.nthen ?_
              refine Z.seq ?_
              refine Z.region ?_
              refine Z.l rfl rfl (by rfl) (Z.keepS hs) (Z.Yd.fieldA (m := 1) rfl (by kernel_rfl)) ?_
              refine Z.l rfl rfl (by rfl) (Z.keepS hs) (by first | exact Z.Yd.load rfl Try.isAgg3 (fun _ => Z.cellB (by first | ((repeat (first | exact List.mem_cons_self | refine List.mem_cons_of_mem _ ?_ | refine List.mem_append_right _ ?_)); done) | fail) rfl) | exact Z.Yd.load rfl Try.isAgg3 (fun _ => Z.cellO (by assumption) (by simp) (by assumption)) | fail "load 6.1") ?_
              refine Z.lb 1 rfl ?_
              refine Z.l rfl rfl (by rfl) (Z.keepS hs) (Z.Yd.add rfl rfl (fun hG => Z.wi64 (by first | omega | (have hG' := Z.gh rfl hG; simp at hG'; omega)))) ?_
              refine Z.l rfl rfl (by rfl) (Z.keepS hs) (Z.Yd.fieldA (m := 1) rfl (by kernel_rfl)) ?_
              refine Z.le rfl trivial ?_
              first | refine Z.ZO.store rfl rfl hs Try.sizeOf3 rfl rfl rfl (by first | exact SX.at0 | exact SX.at1 | exact SX.at2 | exact SX.at3 | exact SX.at4 | exact SX.at5 | exact Z.at6 | exact Z.at7 | exact Z.at8 | exact Z.at9 | exact Z.at10 | exact Z.at11 | exact Z.at12) (by simp) ?_ | refine Z.ZO.storeR rfl rfl hs Try.sizeOf3 rfl rfl rfl (by first | exact SX.at0 | exact SX.at1 | exact SX.at2 | exact SX.at3 | exact SX.at4 | exact SX.at5 | exact Z.at6 | exact Z.at7 | exact Z.at8 | exact Z.at9 | exact Z.at10 | exact Z.at11 | exact Z.at12) (by first | omega | (simp [ints_length]; done) | (simp [ints_length]; omega)) ?_
              clear hs; intro ws hs
              simp only [Nat.zero_add, Nat.add_zero, Nat.reduceAdd, List.set_cons_zero, List.set_cons_succ, List.setIfInBounds_toArray] at hs
              refine Z.lnil ?_
              refine Z.only [2, 4, 7] rfl ?_
              refine Z.nthen ?_
              refine Z.seq ?_
              refine Z.region ?_
              refine Z.l rfl rfl (by rfl) (Z.keepS hs) (by first | exact Z.Yd.loadA _ rfl Try.isAgg65 (fun _ => Z.cellsB (by first | ((repeat (first | exact List.mem_cons_self | refine List.mem_cons_of_mem _ ?_ | refine List.mem_append_right _ ?_)); done) | fail)) (by exact Try.sizeOf65) | fail "load 7.0") ?_
              refine Z.lb 1 rfl ?_
              refine Z.le rfl trivial ?_
              refine Z.ZO.storeA rfl rfl hs rfl rfl (by kernel_rfl) (by simp [Value.oneCell']) (by first | exact SX.at0 | exact SX.at1 | exact SX.at2 | exact SX.at3 | exact SX.at4 | exact SX.at5 | exact Z.at6 | exact Z.at7 | exact Z.at8 | exact Z.at9 | exact Z.at10 | exact Z.at11 | exact Z.at12) (by rfl) ?_
              clear hs; intro ws hs
              simp only [Nat.zero_add, Nat.add_zero, Nat.reduceAdd, List.set_cons_zero, List.set_cons_succ, List.setIfInBounds_toArray] at hs
              refine Z.lb 2 rfl ?_
              refine Z.lnil ?_
              refine Z.only [4, 5, 6] rfl ?_
              refine Z.nthen ?_
              refine Z.ret ?_
              -- ret#2
              refine Z.out3 (by exact ⟨⟨_, rfl, Z.rvcA hs Try.isAgg65 (by first | ((repeat (first | exact List.mem_cons_self | refine List.mem_cons_of_mem _ ?_ | refine List.mem_append_right _ ?_)); done) | fail) (by exact Try.sizeOf65)⟩, rfl, rfl, trivial⟩) ?_
              refine ⟨_, rfl, ?_, hs.sub (List.nil_sublist _)⟩
              unfold getA getV
              rw [e]
              simp
              )
        )

theorem bt_drop (bs : List Bool) (m i : Nat) : bt (bs.drop m) i = bt bs (m + i) := by simp [bt, List.getD_eq_getElem?_getD]
theorem bt_take {bs : List Bool} {m i : Nat} (h : i < m) : bt (bs.take m) i = bt bs i := by simp [bt, List.getD_eq_getElem?_getD, h]
theorem val8 (bs : List Bool) (h : bs.length = 8) : val bs = byt bs 0 := by
  match bs, h with
  | [b0, b1, b2, b3, b4, b5, b6, b7], _ =>
    simp only [val, List.foldl_cons, List.foldl_nil, byt, bn, bt]
    simp
    omega
theorem byt_drop (bs : List Bool) (j : Nat) : byt ((bs.drop (8 * j)).take 8) 0 = byt bs j := by
  unfold byt bn
  simp only [Nat.mul_zero, Nat.zero_add]
  rw [bt_take (by omega), bt_take (by omega), bt_take (by omega), bt_take (by omega), bt_take (by omega), bt_take (by omega), bt_take (by omega), bt_take (by omega)]
  simp only [bt_drop, Nat.add_zero]
theorem gsV_get {l : List Int} : ∀ (n j : Nat) {a : Nat}, j < n → a + 8 * n ≤ 8 * l.length → (gsV l a (List.replicate n 8))[j]? = some ((val (bitsAt l (a + 8 * j) 8) : Nat) : Int)
  | 0, j, a, h, _ => by omega
  | n + 1, j, a, h, h2 => by
    have h1 : getE l a 8 = 0 := getE_ok (l := l) (a := a) (n := 8) (by omega) (by decide)
    have h3 : getA l a 8 = a + 8 := by unfold getA; rw [if_pos h1]; rfl
    have h4 : getV l a 8 = ((val (bitsAt l a 8) : Nat) : Int) := by unfold getV; rw [if_pos h1]; rfl
    rw [List.replicate_succ]
    simp only [gsV]
    cases j with
    | zero => rw [h4]; rfl
    | succ j =>
      rw [List.getElem?_cons_succ, h3, gsV_get n j (by omega) (by omega)]
      rw [show a + 8 + 8 * j = a + 8 * (j + 1) from by omega]
theorem pk_bitsAt {l : List Int} {a n : Nat} (h : a + 8 * n ≤ 8 * l.length) : pk (bitsAt l a (8 * n)) = gsV l a (List.replicate n 8) := by
  apply List.ext_getElem?
  intro j
  have hbl := bitsAt_length (l := l) (a := a) (n := 8 * n) (by omega)
  by_cases hj : j < n
  · rw [gsV_get n j hj h]
    unfold pk pkn
    rw [List.getElem?_map, List.getElem?_range (by omega)]
    simp only [Option.map_some]
    have e : bitsAt l (a + 8 * j) 8 = ((bitsAt l a (8 * n)).drop (8 * j)).take 8 := by
      unfold bitsAt
      rw [List.drop_take, List.drop_drop, List.take_take, Nat.min_eq_left (by omega)]
    rw [e, val8 _ (by rw [List.length_take, List.length_drop, hbl]; omega), byt_drop]
  · have h1 := pk_length (bitsAt l a (8 * n))
    have h2 := gsV_length l (List.replicate n 8) a
    rw [List.length_replicate] at h2
    rw [List.getElem?_eq_none (by omega), List.getElem?_eq_none (by omega)]

set_option maxRecDepth 100000 in
theorem refgetbytes (A : Option Addr) (n c : Nat) (l : List Int) (a : Nat) (k : Int) (w : World) (hx : Sl w A (ints .u8 (bits (unb l)))) (hn : n = l.length * 8) (hc : n ≤ c) (hll : l.length ≤ 1000000) (ha : a ≤ 8 * l.length) :
    Calls Try.prog 46 #[.agg #[.slice A n c, .int .i64 (a : Int)], .int .i64 k] w (SX.Ret fun r w' => ∃ so, r = .tuple #[.agg #[.slice A n c, .int .i64 (gbA l a k : Int)], so, .int .i64 (gbE l a k)] ∧
      SX.St w [] w' [SX.Ent.row so 5 1 (gbV l a k).length (ints .u8 (gbV l a k))]) := by
  have hs := SX.St.start w
  refine Z.enter Try.func46 rfl Try.ntmps46 rfl rfl ?_
  refine Z.seq ?_
  refine Z.region ?_
  refine Z.le rfl trivial ?_
  refine Z.ZO.box rfl rfl (by rfl) rfl rfl hs ?_
  clear hs; intro g2 w2 hs
  refine Z.le rfl trivial ?_
  refine Z.ZO.alloc rfl rfl (by rfl) Try.zeroValue65 rfl hs ?_
  clear hs; intro g4 w4 hs
  refine Z.lb 2 rfl ?_
  refine Z.lnil ?_
  refine Z.only [1, 2, 4] rfl ?_
  refine Z.nthen ?_
  refine Z.seq ?_
  refine Z.seq ?_
  refine Z.region ?_
  refine Z.lb 2 rfl ?_
  refine Z.lnil ?_
  refine Z.only [1, 2, 4, 10] rfl ?_
  refine Z.nthen ?_
  refine Z.cond rfl (fun hc1 => ?_) (fun hc1 => ?_)
  · first
      | (exfalso; simp at hc1 <;> omega)
      | (
        (try simp at hc1)
        refine Z.seq ?_
        refine Z.region ?_
        refine Z.l rfl rfl (by rfl) (Z.keepS hs) (by first | exact Z.Yd.loadA _ rfl Try.isAgg65 (fun _ => Z.cellsB (by first | ((repeat (first | exact List.mem_cons_self | refine List.mem_cons_of_mem _ ?_ | refine List.mem_append_right _ ?_)); done) | fail)) (by exact Try.sizeOf65) | fail "load 2.0") ?_
        refine Z.le rfl trivial ?_
        refine Z.ZO.storeA rfl rfl hs rfl rfl (by kernel_rfl) (by simp [Value.oneCell']) (by first | exact SX.at0 | exact SX.at1 | exact SX.at2 | exact SX.at3 | exact SX.at4 | exact SX.at5 | exact Z.at6 | exact Z.at7 | exact Z.at8 | exact Z.at9 | exact Z.at10 | exact Z.at11 | exact Z.at12) (by rfl) ?_
        clear hs; intro ws hs
        simp only [Nat.zero_add, Nat.add_zero, Nat.reduceAdd, List.set_cons_zero, List.set_cons_succ, List.setIfInBounds_toArray] at hs
        refine Z.lb 2 rfl ?_
        refine Z.lnil ?_
        refine Z.only [4, 5, 6] rfl ?_
        refine Z.nthen ?_
        refine Z.ret ?_
        repeat (first | refine Z.rthen ?_ | refine Z.rblock ?_ | refine Z.rscope ?_)
        -- ret#0
        refine Z.out3 (by exact ⟨⟨_, rfl, Z.rvcA hs Try.isAgg65 (by first | ((repeat (first | exact List.mem_cons_self | refine List.mem_cons_of_mem _ ?_ | refine List.mem_append_right _ ?_)); done) | fail) (by exact Try.sizeOf65)⟩, rfl, rfl, trivial⟩) ?_
        have e : gbE l a k = 2 := by unfold gbE; rw [if_pos (by omega)]
        refine ⟨_, rfl, .slice none 0 0, ?_, ?_⟩
        · unfold gbA
          rw [e]
          rfl
        · unfold gbV
          rw [e]
          exact (hs.nil 5 1).sub (List.cons_sublist_cons.2 (List.nil_sublist _))
        )
  · first
      | (exfalso; simp at hc1 <;> omega)
      | (
        (try simp at hc1)
        refine Z.skip ?_
        refine Z.nthen ?_
        refine Z.seq ?_
        refine Z.seq ?_
        refine Z.region ?_
        refine Z.lb 1 rfl ?_
        refine Z.l rfl rfl (by rfl) (Z.keepS hs) (Z.Yd.fieldA (m := 0) rfl (by kernel_rfl)) ?_
        refine Z.l rfl rfl (by rfl) (Z.keepS hs) (by first | exact Z.Yd.load rfl Try.isAgg25 (fun _ => Z.cellB (by first | ((repeat (first | exact List.mem_cons_self | refine List.mem_cons_of_mem _ ?_ | refine List.mem_append_right _ ?_)); done) | fail) rfl) | exact Z.Yd.load rfl Try.isAgg25 (fun _ => Z.cellO (by assumption) (by simp) (by assumption)) | fail "load 3.2") ?_
        refine Z.l rfl rfl (by rfl) (Z.keepS hs) (Z.Yd.lenS rfl Try.underlying25) ?_
        refine Z.l rfl rfl (by rfl) (Z.keepS hs) (Z.Yd.fieldA (m := 1) rfl (by kernel_rfl)) ?_
        refine Z.l rfl rfl (by rfl) (Z.keepS hs) (by first | exact Z.Yd.load rfl Try.isAgg3 (fun _ => Z.cellB (by first | ((repeat (first | exact List.mem_cons_self | refine List.mem_cons_of_mem _ ?_ | refine List.mem_append_right _ ?_)); done) | fail) rfl) | exact Z.Yd.load rfl Try.isAgg3 (fun _ => Z.cellO (by assumption) (by simp) (by assumption)) | fail "load 3.5") ?_
        refine Z.l rfl rfl (by rfl) (Z.keepS hs) (Z.Yd.sub rfl rfl (fun hG => Z.wi64 (by first | omega | (have hG' := Z.gh rfl hG; simp at hG'; omega)))) ?_
        refine Z.l rfl rfl (by rfl) (Z.keepS hs) (Z.Yd.quo rfl rfl (by intro hG; first | decide | omega) (by intro hG; first | exact Z.qi64 ⟨by omega, by omega⟩ (by omega) | exact rfl)) ?_
        refine Z.lb 1 rfl ?_
        refine Z.lnil ?_
        refine Z.only [1, 2, 4, 20] rfl ?_
        refine Z.nthen ?_
        refine Z.cond rfl (fun hc3 => ?_) (fun hc3 => ?_)
        · first
            | (exfalso; simp at hc3 <;> omega)
            | (
              (try simp at hc3)
              refine Z.seq ?_
              refine Z.region ?_
              refine Z.l rfl rfl (by rfl) (Z.keepS hs) (by first | exact Z.Yd.loadA _ rfl Try.isAgg65 (fun _ => Z.cellsB (by first | ((repeat (first | exact List.mem_cons_self | refine List.mem_cons_of_mem _ ?_ | refine List.mem_append_right _ ?_)); done) | fail)) (by exact Try.sizeOf65) | fail "load 4.0") ?_
              refine Z.le rfl trivial ?_
              refine Z.ZO.storeA rfl rfl hs rfl rfl (by kernel_rfl) (by simp [Value.oneCell']) (by first | exact SX.at0 | exact SX.at1 | exact SX.at2 | exact SX.at3 | exact SX.at4 | exact SX.at5 | exact Z.at6 | exact Z.at7 | exact Z.at8 | exact Z.at9 | exact Z.at10 | exact Z.at11 | exact Z.at12) (by rfl) ?_
              clear hs; intro ws hs
              simp only [Nat.zero_add, Nat.add_zero, Nat.reduceAdd, List.set_cons_zero, List.set_cons_succ, List.setIfInBounds_toArray] at hs
              refine Z.lb 2 rfl ?_
              refine Z.lnil ?_
              refine Z.only [4, 5, 6] rfl ?_
              refine Z.nthen ?_
              refine Z.ret ?_
              repeat (first | refine Z.rthen ?_ | refine Z.rblock ?_ | refine Z.rscope ?_)
              -- ret#1
              refine Z.out3 (by exact ⟨⟨_, rfl, Z.rvcA hs Try.isAgg65 (by first | ((repeat (first | exact List.mem_cons_self | refine List.mem_cons_of_mem _ ?_ | refine List.mem_append_right _ ?_)); done) | fail) (by exact Try.sizeOf65)⟩, rfl, rfl, trivial⟩) ?_
              have e : gbE l a k = 5 := by unfold gbE; rw [if_neg (by omega), if_pos (by omega)]
              refine ⟨_, rfl, .slice none 0 0, ?_, ?_⟩
              · unfold gbA
                rw [e]
                rfl
              · unfold gbV
                rw [e]
                exact (hs.nil 5 1).sub (List.cons_sublist_cons.2 (List.nil_sublist _))
              )
        · first
            | (exfalso; simp at hc3 <;> omega)
            | (
              (try simp at hc3)
              refine Z.skip ?_
              refine Z.nthen ?_
              refine Z.seq ?_
              refine Z.region ?_
              have e : gbE l a k = 0 := by unfold gbE; rw [if_neg (by omega), if_neg (by omega)]
              obtain ⟨m, rfl⟩ := Int.eq_ofNat_of_zero_le (show 0 ≤ k by omega)
              have hbl := bitsAt_length (l := l) (a := a) (n := 8 * m) (by omega)
              have hbl2 := unb_length l
              have hcc : c = a → ints .u8 (bits (bitsAt l a (8 * m))) = [] := fun e0 => by
                obtain rfl : m = 0 := by omega
                rfl
              have hpk := pk_bitsAt (l := l) (a := a) (n := m) (by omega)
              refine Z.l rfl rfl (by rfl) (Z.keepS hs) (Z.Yd.fieldA (m := 0) rfl (by kernel_rfl)) ?_
              refine Z.l rfl rfl (by rfl) (Z.keepS hs) (by first | exact Z.Yd.load rfl Try.isAgg25 (fun _ => Z.cellB (by first | ((repeat (first | exact List.mem_cons_self | refine List.mem_cons_of_mem _ ?_ | refine List.mem_append_right _ ?_)); done) | fail) rfl) | exact Z.Yd.load rfl Try.isAgg25 (fun _ => Z.cellO (by assumption) (by simp) (by assumption)) | fail "load 5.1") ?_
              refine Z.l rfl rfl (by rfl) (Z.keepS hs) (Z.Yd.fieldA (m := 1) rfl (by kernel_rfl)) ?_
              refine Z.l rfl rfl (by rfl) (Z.keepS hs) (by first | exact Z.Yd.load rfl Try.isAgg3 (fun _ => Z.cellB (by first | ((repeat (first | exact List.mem_cons_self | refine List.mem_cons_of_mem _ ?_ | refine List.mem_append_right _ ?_)); done) | fail) rfl) | exact Z.Yd.load rfl Try.isAgg3 (fun _ => Z.cellO (by assumption) (by simp) (by assumption)) | fail "load 5.3") ?_
              refine Z.l rfl rfl (by rfl) (Z.keepS hs) (Z.Yd.fieldA (m := 1) rfl (by kernel_rfl)) ?_
              refine Z.l rfl rfl (by rfl) (Z.keepS hs) (by first | exact Z.Yd.load rfl Try.isAgg3 (fun _ => Z.cellB (by first | ((repeat (first | exact List.mem_cons_self | refine List.mem_cons_of_mem _ ?_ | refine List.mem_append_right _ ?_)); done) | fail) rfl) | exact Z.Yd.load rfl Try.isAgg3 (fun _ => Z.cellO (by assumption) (by simp) (by assumption)) | fail "load 5.5") ?_
              refine Z.lb 1 rfl ?_
              refine Z.l rfl rfl (by rfl) (Z.keepS hs) (Z.Yd.mul rfl rfl (fun hG => Z.wi64 (by first | omega | (have hG' := Z.gh rfl hG; simp at hG'; omega)))) ?_
              refine Z.l rfl rfl (by rfl) (Z.keepS hs) (Z.Yd.add rfl rfl (fun hG => Z.wi64 (by first | omega | (have hG' := Z.gh rfl hG; simp at hG'; omega)))) ?_
              refine Z.l rfl rfl (by rfl) (Z.keepS hs) (Z.Yd.cut a (a + 8 * m) rfl (Z.lvl_some rfl (by intro hG; first | rfl | exact (by first | omega | (have hG' := Z.gh rfl hG; simp at hG'; omega)))) (Z.lvl_some rfl (by intro hG; first | rfl | exact (by first | omega | (have hG' := Z.gh rfl hG; simp at hG'; omega)))) Try.underlying25 Try.sizeOf5 (fun hG => ⟨(by first | omega | (have hG' := Z.gh rfl hG; simp at hG'; omega)), (by first | omega | (have hG' := Z.gh rfl hG; simp at hG'; omega))⟩)) ?_
              refine Z.le rfl trivial ?_
              refine Z.ZO.call rfl rfl (by rfl) rfl rfl Try.call38 rfl (pack_any (slA A c a 1) _ (c - a) (bitsAt l a (8 * m)) _ ((hx.cut (bits_cut (by omega)) hcc).st (hs.sub (List.nil_sublist _))) (by rw [hbl]; omega) (by omega)) ?_
              rintro v5_10 w5_10 ⟨sv, rfl, hy⟩
              replace hs := hs.call hy
              clear hy
              try simp only [List.cons_append, List.nil_append, List.append_nil] at hs
              refine Z.lb 5 rfl ?_
              refine Z.lnil ?_
              refine Z.only [1, 2, 4, 7] rfl ?_
              refine Z.nthen ?_
              refine Z.seq ?_
              refine Z.region ?_
              refine Z.l rfl rfl (by rfl) (Z.keepS hs) (Z.Yd.fieldA (m := 1) rfl (by kernel_rfl)) ?_
              refine Z.l rfl rfl (by rfl) (Z.keepS hs) (by first | exact Z.Yd.load rfl Try.isAgg3 (fun _ => Z.cellB (by first | ((repeat (first | exact List.mem_cons_self | refine List.mem_cons_of_mem _ ?_ | refine List.mem_append_right _ ?_)); done) | fail) rfl) | exact Z.Yd.load rfl Try.isAgg3 (fun _ => Z.cellO (by assumption) (by simp) (by assumption)) | fail "load 6.1") ?_
              refine Z.lb 1 rfl ?_
              refine Z.l rfl rfl (by rfl) (Z.keepS hs) (Z.Yd.mul rfl rfl (fun hG => Z.wi64 (by first | omega | (have hG' := Z.gh rfl hG; simp at hG'; omega)))) ?_
              refine Z.l rfl rfl (by rfl) (Z.keepS hs) (Z.Yd.add rfl rfl (fun hG => Z.wi64 (by first | omega | (have hG' := Z.gh rfl hG; simp at hG'; omega)))) ?_
              refine Z.l rfl rfl (by rfl) (Z.keepS hs) (Z.Yd.fieldA (m := 1) rfl (by kernel_rfl)) ?_
              refine Z.le rfl trivial ?_
              first | refine Z.ZO.store rfl rfl hs Try.sizeOf3 rfl rfl rfl (by first | exact SX.at0 | exact SX.at1 | exact SX.at2 | exact SX.at3 | exact SX.at4 | exact SX.at5 | exact Z.at6 | exact Z.at7 | exact Z.at8 | exact Z.at9 | exact Z.at10 | exact Z.at11 | exact Z.at12) (by simp) ?_ | refine Z.ZO.storeR rfl rfl hs Try.sizeOf3 rfl rfl rfl (by first | exact SX.at0 | exact SX.at1 | exact SX.at2 | exact SX.at3 | exact SX.at4 | exact SX.at5 | exact Z.at6 | exact Z.at7 | exact Z.at8 | exact Z.at9 | exact Z.at10 | exact Z.at11 | exact Z.at12) (by first | omega | (simp [ints_length]; done) | (simp [ints_length]; omega)) ?_
              clear hs; intro ws hs
              simp only [Nat.zero_add, Nat.add_zero, Nat.reduceAdd, List.set_cons_zero, List.set_cons_succ, List.setIfInBounds_toArray] at hs
              refine Z.lnil ?_
              refine Z.only [2, 4, 7] rfl ?_
              refine Z.nthen ?_
              refine Z.seq ?_
              refine Z.region ?_
              refine Z.l rfl rfl (by rfl) (Z.keepS hs) (by first | exact Z.Yd.loadA _ rfl Try.isAgg65 (fun _ => Z.cellsB (by first | ((repeat (first | exact List.mem_cons_self | refine List.mem_cons_of_mem _ ?_ | refine List.mem_append_right _ ?_)); done) | fail)) (by exact Try.sizeOf65) | fail "load 7.0") ?_
              refine Z.lb 1 rfl ?_
              refine Z.le rfl trivial ?_
              refine Z.ZO.storeA rfl rfl hs rfl rfl (by kernel_rfl) (by simp [Value.oneCell']) (by first | exact SX.at0 | exact SX.at1 | exact SX.at2 | exact SX.at3 | exact SX.at4 | exact SX.at5 | exact Z.at6 | exact Z.at7 | exact Z.at8 | exact Z.at9 | exact Z.at10 | exact Z.at11 | exact Z.at12) (by rfl) ?_
              clear hs; intro ws hs
              simp only [Nat.zero_add, Nat.add_zero, Nat.reduceAdd, List.set_cons_zero, List.set_cons_succ, List.setIfInBounds_toArray] at hs
              refine Z.lb 2 rfl ?_
              refine Z.lnil ?_
              refine Z.only [4, 5, 6] rfl ?_
              refine Z.nthen ?_
              refine Z.ret ?_
              -- ret#2
              refine Z.out3 (by exact ⟨⟨_, rfl, Z.rvcA hs Try.isAgg65 (by first | ((repeat (first | exact List.mem_cons_self | refine List.mem_cons_of_mem _ ?_ | refine List.mem_append_right _ ?_)); done) | fail) (by exact Try.sizeOf65)⟩, rfl, rfl, trivial⟩) ?_
              refine ⟨_, rfl, sv, ?_, ?_⟩
              · unfold gbA
                rw [e]
                simp
              · unfold gbV
                rw [e, if_pos rfl, Int.toNat_natCast, ← hpk]
                exact hs.sub (List.cons_sublist_cons.2 (List.nil_sublist _))
              )
        )

theorem val_eq_zero : ∀ {bs : List Bool}, val bs = 0 ↔ bs.countP id = 0 := by
  have h : ∀ n (bs : List Bool), bs.length = n → (val bs = 0 ↔ bs.countP id = 0) := by
    intro n
    induction n with
    | zero =>
      intro bs h
      obtain rfl := List.eq_nil_of_length_eq_zero h
      simp [val]
    | succ n ih =>
      intro bs h
      have hne : bs ≠ [] := by intro e; subst e; simp at h
      have e := List.dropLast_concat_getLast hne
      have := ih bs.dropLast (by simp; omega)
      rw [← e, val_snoc, List.countP_append]
      cases bs.getLast hne
      · have e2 : ([false] : List Bool).countP id = 0 := rfl
        have e3 : false.toNat = 0 := rfl
        rw [e2, e3]
        omega
      · have e2 : ([true] : List Bool).countP id = 1 := rfl
        have e3 : true.toNat = 1 := rfl
        rw [e2, e3]
        omega
  exact fun {bs} => h _ bs rfl

set_option maxRecDepth 100000 in
theorem refend (A : Option Addr) (n c : Nat) (l : List Int) (a : Nat) (w : World) (hx : Sl w A (ints .u8 (bits (unb l)))) (hn : n = l.length * 8) (hc : n ≤ c) (hll : l.length ≤ 1000000) (ha : a ≤ 8 * l.length) :
    Calls Try.prog 31 #[.agg #[.slice A n c, .int .i64 (a : Int)]] w (SX.Ret fun r w' => r = .int .i64 (endE l a) ∧ SX.St w [] w' []) := by
  have hs := SX.St.start w
  have hbl2 := unb_length l
  have hbl := bitsAt_length (l := l) (a := a) (n := 8 * l.length - a) (by omega)
  have hcc : c = a → ints .u8 (bits (bitsAt l a (8 * l.length - a))) = [] := fun e0 => by
    rw [show 8 * l.length - a = 0 from by omega]
    rfl
  have hz := @val_eq_zero (bitsAt l a (8 * l.length - a))
  have hcl : (bitsAt l a (8 * l.length - a)).countP id ≤ 8 * l.length - a := Nat.le_trans List.countP_le_length (by omega)
  obtain ⟨cn, hcn⟩ : ∃ cn, cn = (bitsAt l a (8 * l.length - a)).countP id := ⟨_, rfl⟩
  rw [← hcn] at hz hcl
  refine Z.enter Try.func31 rfl Try.ntmps31 rfl rfl ?_
  refine Z.seq ?_
  refine Z.region ?_
  refine Z.le rfl trivial ?_
  refine Z.ZO.box rfl rfl (by rfl) rfl rfl hs ?_
  clear hs; intro g1 w1 hs
  refine Z.lb 1 rfl ?_
  refine Z.lnil ?_
  refine Z.only [1] rfl ?_
  refine Z.nthen ?_
  refine Z.seq ?_
  refine Z.seq ?_
  refine Z.region ?_
  refine Z.l rfl rfl (by rfl) (Z.keepS hs) (Z.Yd.fieldA (m := 0) rfl (by kernel_rfl)) ?_
  refine Z.l rfl rfl (by rfl) (Z.keepS hs) (by first | exact Z.Yd.load rfl Try.isAgg25 (fun _ => Z.cellB (by first | ((repeat (first | exact List.mem_cons_self | refine List.mem_cons_of_mem _ ?_ | refine List.mem_append_right _ ?_)); done) | fail) rfl) | exact Z.Yd.load rfl Try.isAgg25 (fun _ => Z.cellO (by assumption) (by simp) (by assumption)) | fail "load 1.1") ?_
  refine Z.l rfl rfl (by rfl) (Z.keepS hs) (Z.Yd.lenS rfl Try.underlying25) ?_
  refine Z.l rfl rfl (by rfl) (Z.keepS hs) (Z.Yd.fieldA (m := 1) rfl (by kernel_rfl)) ?_
  refine Z.l rfl rfl (by rfl) (Z.keepS hs) (by first | exact Z.Yd.load rfl Try.isAgg3 (fun _ => Z.cellB (by first | ((repeat (first | exact List.mem_cons_self | refine List.mem_cons_of_mem _ ?_ | refine List.mem_append_right _ ?_)); done) | fail) rfl) | exact Z.Yd.load rfl Try.isAgg3 (fun _ => Z.cellO (by assumption) (by simp) (by assumption)) | fail "load 1.4") ?_
  refine Z.l rfl rfl (by rfl) (Z.keepS hs) (Z.Yd.sub rfl rfl (fun hG => Z.wi64 (by first | omega | (have hG' := Z.gh rfl hG; simp at hG'; omega)))) ?_
  refine Z.lb 2 rfl ?_
  refine Z.split (s := 10) rfl (fun hsp10 => ?_) (fun hsp10 => ?_)
  · first
      | (exfalso; simp at hsp10 <;> omega)
      | (
        refine Z.yes (s := 10) (b := true) rfl hsp10 rfl ?_
        (try simp at hsp10)
        refine Z.ls rfl rfl rfl (by rfl) ?_
        refine Z.ls rfl rfl rfl (by rfl) ?_
        refine Z.ls rfl rfl rfl (by rfl) ?_
        refine Z.ls rfl rfl rfl (by rfl) ?_
        refine Z.ls rfl rfl rfl (by rfl) ?_
        refine Z.ls rfl rfl rfl (by rfl) ?_
        refine Z.ls rfl rfl rfl (by rfl) ?_
        refine Z.l rfl rfl (by rfl) (Z.keepS hs) (Z.Yd.pickT rfl rfl) ?_
        refine Z.lnil ?_
        refine Z.only [18] rfl ?_
        refine Z.nthen ?_
        refine Z.cond rfl (fun hc1 => ?_) (fun hc1 => ?_)
        · first
            | (exfalso; simp at hc1 <;> omega)
            | (
              (try simp at hc1)
              refine Z.seq ?_
              refine Z.region ?_
              refine Z.lb 1 rfl ?_
              refine Z.lnil ?_
              refine Z.only [2] rfl ?_
              refine Z.nthen ?_
              refine Z.ret ?_
              repeat (first | refine Z.rthen ?_ | refine Z.rblock ?_ | refine Z.rscope ?_)
              -- ret#0
              refine Z.out1 (by exact ⟨rfl, trivial⟩) ?_
              refine ⟨_, rfl, ?_, hs.sub (List.nil_sublist _)⟩
              unfold endE
              rw [if_pos (by omega)]
              )
        · first
            | (exfalso; simp at hc1 <;> omega)
            | (
              (try simp at hc1)
              refine Z.skip ?_
              refine Z.nthen ?_
              refine Z.seq ?_
              refine Z.region ?_
              refine Z.lb 1 rfl ?_
              refine Z.lnil ?_
              refine Z.only [2] rfl ?_
              refine Z.nthen ?_
              refine Z.ret ?_
              -- ret#1
              refine Z.out1 (by exact ⟨rfl, trivial⟩) ?_
              first | exact ⟨_, rfl, rfl, hs⟩ | exact ⟨_, rfl, rfl, hs.sub (List.nil_sublist _)⟩
              )
        )
  · first
      | (exfalso; simp at hsp10 <;> omega)
      | (
        refine Z.yes (s := 10) (b := false) rfl hsp10 rfl ?_
        (try simp at hsp10)
        refine Z.l rfl rfl (by rfl) (Z.keepS hs) (Z.Yd.fieldA (m := 0) rfl (by kernel_rfl)) ?_
        refine Z.l rfl rfl (by rfl) (Z.keepS hs) (by first | exact Z.Yd.load rfl Try.isAgg25 (fun _ => Z.cellB (by first | ((repeat (first | exact List.mem_cons_self | refine List.mem_cons_of_mem _ ?_ | refine List.mem_append_right _ ?_)); done) | fail) rfl) | exact Z.Yd.load rfl Try.isAgg25 (fun _ => Z.cellO (by assumption) (by simp) (by assumption)) | fail "load 1.9") ?_
        refine Z.l rfl rfl (by rfl) (Z.keepS hs) (Z.Yd.fieldA (m := 1) rfl (by kernel_rfl)) ?_
        refine Z.l rfl rfl (by rfl) (Z.keepS hs) (by first | exact Z.Yd.load rfl Try.isAgg3 (fun _ => Z.cellB (by first | ((repeat (first | exact List.mem_cons_self | refine List.mem_cons_of_mem _ ?_ | refine List.mem_append_right _ ?_)); done) | fail) rfl) | exact Z.Yd.load rfl Try.isAgg3 (fun _ => Z.cellO (by assumption) (by simp) (by assumption)) | fail "load 1.11") ?_
        refine Z.l rfl rfl (by rfl) (Z.keepS hs) (Z.Yd.cut a n rfl (Z.lvl_some rfl (by intro hG; first | rfl | exact (by first | omega | (have hG' := Z.gh rfl hG; simp at hG'; omega)))) rfl Try.underlying25 Try.sizeOf5 (fun hG => ⟨(by first | omega | (have hG' := Z.gh rfl hG; simp at hG'; omega)), (by first | omega | (have hG' := Z.gh rfl hG; simp at hG'; omega))⟩)) ?_
        refine Z.yes (s := 10) (b := false) rfl rfl rfl ?_
        refine Z.le rfl (by exact ⟨rfl, trivial⟩) ?_
        refine Z.ZO.call rfl rfl (by rfl) rfl rfl Try.call50 rfl (weight01 (slA A c a 1) _ (c - a) (bitsAt l a (8 * l.length - a)) _ ((hx.cut (bits_cut (by omega)) hcc).st (hs.sub (List.nil_sublist _))) (by rw [hbl]; omega) (by omega)) ?_
        rintro v1_13 w1_13 ⟨rfl, hy⟩
        replace hs := hs.call hy
        clear hy
        try simp only [List.cons_append, List.nil_append, List.append_nil] at hs
        rw [← hcn]
        refine Z.lb 1 rfl ?_
        refine Z.yes (s := 10) (b := false) rfl rfl rfl ?_
        refine Z.l rfl rfl (by rfl) (Z.keepS hs) (Z.Yd.pickF rfl rfl) ?_
        refine Z.lnil ?_
        refine Z.only [18] rfl ?_
        refine Z.nthen ?_
        refine Z.cond rfl (fun hc1 => ?_) (fun hc1 => ?_)
        · first
            | (exfalso; simp at hc1 <;> omega)
            | (
              (try simp at hc1)
              refine Z.seq ?_
              refine Z.region ?_
              refine Z.lb 1 rfl ?_
              refine Z.lnil ?_
              refine Z.only [2] rfl ?_
              refine Z.nthen ?_
              refine Z.ret ?_
              repeat (first | refine Z.rthen ?_ | refine Z.rblock ?_ | refine Z.rscope ?_)
              -- ret#2
              refine Z.out1 (by exact ⟨rfl, trivial⟩) ?_
              refine ⟨_, rfl, ?_, hs.sub (List.nil_sublist _)⟩
              have htb : toByte a = 8 * l.length - a := by unfold toByte; omega
              unfold endE alE
              rw [if_neg (by omega), htb, if_neg (by omega)]
              )
        · first
            | (exfalso; simp at hc1 <;> omega)
            | (
              (try simp at hc1)
              refine Z.skip ?_
              refine Z.nthen ?_
              refine Z.seq ?_
              refine Z.region ?_
              refine Z.lb 1 rfl ?_
              refine Z.lnil ?_
              refine Z.only [2] rfl ?_
              refine Z.nthen ?_
              refine Z.ret ?_
              -- ret#3
              refine Z.out1 (by exact ⟨rfl, trivial⟩) ?_
              refine ⟨_, rfl, ?_, hs.sub (List.nil_sublist _)⟩
              have htb : toByte a = 8 * l.length - a := by unfold toByte; omega
              unfold endE alE
              rw [if_neg (by omega), htb, if_pos (by omega)]
              )
        )
end Go.Proofs.Ytggikablbdhniaa
