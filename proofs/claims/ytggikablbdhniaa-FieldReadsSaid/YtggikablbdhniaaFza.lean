/- The document's reader: Align, GetAll. -/
import Derived.Test.YtggikablbdhniaaFz
namespace Go.Proofs.Ytggikablbdhniaa
open Go.RowKit
set_option linter.unusedSimpArgs false
set_option linter.unusedVariables false

theorem val_one {bs : List Bool} {k : Nat} (h : k < bs.length) (hb : bt bs k = true) : val bs ≠ 0 := by
  intro h0
  have h1 := val_eq_zero.1 h0
  have h2 : 0 < bs.countP id := by
    rw [List.countP_pos_iff]
    refine ⟨bs[k], List.getElem_mem h, ?_⟩
    have : bt bs k = bs[k] := by simp [bt, h]
    rw [← this, hb]
    rfl
  omega

set_option maxRecDepth 100000 in
theorem refral (A : Option Addr) (n c : Nat) (l : List Int) (a : Nat) (w : World) (hx : Sl w A (ints .u8 (bits (unb l)))) (hn : n = l.length * 8) (hc : n ≤ c) (hll : l.length ≤ 1000000) (ha : a ≤ 8 * l.length) :
    Calls Try.prog 49 #[.agg #[.slice A n c, .int .i64 (a : Int)]] w (SX.Ret fun r w' => r = .tuple #[.agg #[.slice A n c, .int .i64 (alA l a : Int)], .int .i64 (alE l a)] ∧ SX.St w [] w' []) := by
  have hs := SX.St.start w
  have hbl2 := unb_length l
  have htb : toByte a = (8 - a % 8) % 8 := rfl
  have hbl := bitsAt_length (l := l) (a := a) (n := toByte a) (by omega)
  have hlb := bits_length (unb l)
  refine Z.enter Try.func49 rfl Try.ntmps49 rfl rfl ?_
  refine Z.seq ?_
  refine Z.region ?_
  refine Z.le rfl trivial ?_
  refine Z.ZO.box rfl rfl (by rfl) rfl rfl hs ?_
  clear hs; intro g1 w1 hs
  refine Z.le rfl trivial ?_
  refine Z.ZO.alloc rfl rfl (by rfl) Try.zeroValue65 rfl hs ?_
  clear hs; intro g2 w2 hs
  refine Z.lb 1 rfl ?_
  refine Z.lnil ?_
  refine Z.only [1, 2] rfl ?_
  refine Z.nthen ?_
  refine Z.seq ?_
  refine Z.seq ?_
  refine Z.region ?_
  refine Z.l rfl rfl (by rfl) (Z.keepS hs) (Z.Yd.fieldA (m := 1) rfl (by kernel_rfl)) ?_
  refine Z.l rfl rfl (by rfl) (Z.keepS hs) (by first | exact Z.Yd.load rfl Try.isAgg3 (fun _ => Z.cellB (by first | ((repeat (first | exact List.mem_cons_self | refine List.mem_cons_of_mem _ ?_ | refine List.mem_append_right _ ?_)); done) | fail) rfl) | exact Z.Yd.load rfl Try.isAgg3 (fun _ => Z.cellO (by assumption) (by simp) (by assumption)) | fail "load 1.1") ?_
  refine Z.lb 1 rfl ?_
  refine Z.lnil ?_
  refine Z.only [1, 2, 4] rfl ?_
  refine Z.nthen ?_
  refine Z.block ?_
  refine Z.loopk (ι := Nat) [1, 2] rfl (fun k => [(4, [], .int .i64 ((a + k : Nat) : Int))]) (fun k wr => k ≤ toByte a ∧ val (bitsAt l a k) = 0 ∧ SX.St w [] wr [SX.Ent.blk g2 65 #[.slice none 0 0, .int .i64 0], SX.Ent.blk g1 65 #[.slice A n c, .int .i64 (a : Int)]]) (fun k => toByte a - k) 0 (by refine ⟨?_, trivial⟩ <;> (first | rfl | (refine Z.lookv rfl ?_; simp; done) | (refine Z.lookv rfl ?_; simp; omega))) ⟨by omega, rfl, hs⟩ ?_
  clear hs
  rintro k w1 ⟨hk, hz, hs⟩
  refine Z.only [1, 2, 4] rfl ?_
  refine Z.seq ?_
  refine Z.seq ?_
  refine Z.region ?_
  refine Z.lb 1 rfl ?_
  refine Z.l rfl rfl (by rfl) (Z.keepS hs) (Z.Yd.rem rfl rfl (by intro hG; first | decide | omega) (by intro hG; first | exact Z.tmodn (by omega) | exact rfl)) ?_
  refine Z.lb 1 rfl ?_
  refine Z.lnil ?_
  refine Z.only [1, 2, 4, 9] rfl ?_
  refine Z.nthen ?_
  refine Z.cond rfl (fun hc2 => ?_) (fun hc2 => ?_)
  · first
      | (exfalso; simp at hc2 <;> omega)
      | (
        (try simp at hc2)
        have hkt : k < toByte a := by omega
        obtain ⟨b, off, rfl, hb, hx⟩ := Z.Sl.some hx (by simp [ints]; omega)
        have he := elt_bits (bs := unb l) (i := a + k) (by omega)
        have hg : bt (unb l) (a + k) = bt (bitsAt l a (toByte a)) k := by unfold bitsAt; rw [bt_take hkt, bt_drop]
        refine Z.skip ?_
        refine Z.nthen ?_
        refine Z.seq ?_
        refine Z.block ?_
        refine Z.seq ?_
        refine Z.region ?_
        refine Z.l rfl rfl (by rfl) (Z.keepS hs) (Z.Yd.fieldA (m := 0) rfl (by kernel_rfl)) ?_
        refine Z.l rfl rfl (by rfl) (Z.keepS hs) (by first | exact Z.Yd.load rfl Try.isAgg25 (fun _ => Z.cellB (by first | ((repeat (first | exact List.mem_cons_self | refine List.mem_cons_of_mem _ ?_ | refine List.mem_append_right _ ?_)); done) | fail) rfl) | exact Z.Yd.load rfl Try.isAgg25 (fun _ => Z.cellO (by assumption) (by simp) (by assumption)) | fail "load 4.1") ?_
        refine Z.lb 1 rfl ?_
        refine Z.l rfl rfl (by rfl) (Z.keepS hs) (Z.Yd.elem rfl rfl Try.underlying25 Try.sizeOf5 (fun hG => ⟨(by first | omega | (have hG' := Z.gh rfl hG; simp at hG'; omega)), (by first | omega | (have hG' := Z.gh rfl hG; simp at hG'; omega))⟩)) ?_
        refine Z.l rfl rfl (by rfl) (Z.keepS hs) (Z.Yd.load rfl Try.isAgg5 (fun _ => he ▸ Z.cellS hx rfl (by first | omega | (have hG' := Z.gh rfl hG; simp at hG'; omega)) (by first | omega | (have hG' := Z.gh rfl hG; simp at hG'; omega)))) ?_
        refine Z.lb 1 rfl ?_
        refine Z.lnil ?_
        refine Z.only [1, 2, 4, 17] rfl ?_
        refine Z.nthen ?_
        refine Z.cond rfl (fun hc4 => ?_) (fun hc4 => ?_)
        · first
            | (exfalso; simp at hc4 <;> omega)
            | (
              (try simp at hc4)
              refine Z.seq ?_
              refine Z.region ?_
              refine Z.l rfl rfl (by rfl) (Z.keepS hs) (by first | exact Z.Yd.loadA _ rfl Try.isAgg65 (fun _ => Z.cellsB (by first | ((repeat (first | exact List.mem_cons_self | refine List.mem_cons_of_mem _ ?_ | refine List.mem_append_right _ ?_)); done) | fail)) (by exact Try.sizeOf65) | fail "load 5.0") ?_
              refine Z.le rfl trivial ?_
              refine Z.ZO.storeA rfl rfl hs rfl rfl (by kernel_rfl) (by simp [Value.oneCell']) (by first | exact SX.at0 | exact SX.at1 | exact SX.at2 | exact SX.at3 | exact SX.at4 | exact SX.at5 | exact Z.at6 | exact Z.at7 | exact Z.at8 | exact Z.at9 | exact Z.at10 | exact Z.at11 | exact Z.at12) (by rfl) ?_
              clear hs; intro ws hs
              simp only [Nat.zero_add, Nat.add_zero, Nat.reduceAdd, List.set_cons_zero, List.set_cons_succ, List.setIfInBounds_toArray] at hs
              refine Z.lb 1 rfl ?_
              refine Z.lnil ?_
              refine Z.only [2, 3] rfl ?_
              refine Z.nthen ?_
              refine Z.ret ?_
              repeat (first | refine Z.rthen ?_ | refine Z.rblock ?_ | refine Z.rscope ?_)
              -- ret#0
              refine Z.out2 (by exact ⟨⟨_, rfl, Z.rvcA hs Try.isAgg65 (by first | ((repeat (first | exact List.mem_cons_self | refine List.mem_cons_of_mem _ ?_ | refine List.mem_append_right _ ?_)); done) | fail) (by exact Try.sizeOf65)⟩, rfl, trivial⟩) ?_
              have hb1 : bt (unb l) (a + k) = true := by cases h : bt (unb l) (a + k) with
                | true => rfl
                | false => rw [h] at hc4; simp [bi] at hc4
              have hne : val (bitsAt l a (toByte a)) ≠ 0 := val_one (k := k) (by omega) (by rw [← hg]; exact hb1)
              refine ⟨_, rfl, ?_, hs.sub (List.nil_sublist _)⟩
              unfold alA alE
              rw [if_neg hne, if_neg hne]
              )
        · first
            | (exfalso; simp at hc4 <;> omega)
            | (
              (try simp at hc4)
              refine Z.skip ?_
              refine Z.nblock ?_
              refine Z.nthen ?_
              refine Z.region ?_
              refine Z.lb 1 rfl ?_
              refine Z.l rfl rfl (by rfl) (Z.keepS hs) (Z.Yd.add rfl rfl (fun hG => Z.wi64 (by first | omega | (have hG' := Z.gh rfl hG; simp at hG'; omega)))) ?_
              refine Z.lb 1 rfl ?_
              refine Z.lnil ?_
              refine Z.only [1, 2, 4] rfl ?_
              refine Z.nthen ?_
              have hb0 : bt (unb l) (a + k) = false := by cases h : bt (unb l) (a + k) with
                | false => rfl
                | true => rw [h] at hc4; simp [bi] at hc4
              have hsn : bitsAt l a (k + 1) = bitsAt l a k ++ [bt (unb l) (a + k)] := by
                unfold bitsAt
                rw [take_bt (by rw [List.length_drop]; omega), bt_drop]
              exact Z.again (k + 1) (by refine ⟨?_, ?_, ?_, trivial⟩ <;> (first | rfl | (refine Z.lookv rfl ?_; simp; done) | (refine Z.lookv rfl ?_; simp; omega))) ⟨by omega, by rw [hsn, val_snoc, hz, hb0]; rfl, hs⟩ (by omega)
              )
        )
  · first
      | (exfalso; simp at hc2 <;> omega)
      | (
        (try simp at hc2)
        refine Z.exit ?_
        refine Z.xthen ?_
        refine Z.xthen ?_
        refine Z.xblock ?_
        refine Z.nthen ?_
        refine Z.seq ?_
        refine Z.region ?_
        obtain rfl : k = toByte a := by omega
        refine Z.l rfl rfl (by rfl) (Z.keepS hs) (Z.Yd.fieldA (m := 1) rfl (by kernel_rfl)) ?_
        refine Z.l rfl rfl (by rfl) (Z.keepS hs) (by first | exact Z.Yd.load rfl Try.isAgg3 (fun _ => Z.cellB (by first | ((repeat (first | exact List.mem_cons_self | refine List.mem_cons_of_mem _ ?_ | refine List.mem_append_right _ ?_)); done) | fail) rfl) | exact Z.Yd.load rfl Try.isAgg3 (fun _ => Z.cellO (by assumption) (by simp) (by assumption)) | fail "load 6.1") ?_
        refine Z.l rfl rfl (by rfl) (Z.keepS hs) (Z.Yd.add rfl rfl (fun hG => Z.wi64 (by first | omega | (have hG' := Z.gh rfl hG; simp at hG'; omega)))) ?_
        refine Z.l rfl rfl (by rfl) (Z.keepS hs) (Z.Yd.quo rfl rfl (by intro hG; first | decide | omega) (by intro hG; first | exact Z.qi64 ⟨by omega, by omega⟩ (by omega) | exact rfl)) ?_
        refine Z.l rfl rfl (by rfl) (Z.keepS hs) (Z.Yd.mul rfl rfl (fun hG => Z.wi64 (by first | omega | (have hG' := Z.gh rfl hG; simp at hG'; omega)))) ?_
        refine Z.l rfl rfl (by rfl) (Z.keepS hs) (Z.Yd.fieldA (m := 1) rfl (by kernel_rfl)) ?_
        refine Z.le rfl trivial ?_
        first | refine Z.ZO.store rfl rfl hs Try.sizeOf3 rfl rfl rfl (by first | exact SX.at0 | exact SX.at1 | exact SX.at2 | exact SX.at3 | exact SX.at4 | exact SX.at5 | exact Z.at6 | exact Z.at7 | exact Z.at8 | exact Z.at9 | exact Z.at10 | exact Z.at11 | exact Z.at12) (by simp) ?_ | refine Z.ZO.storeR rfl rfl hs Try.sizeOf3 rfl rfl rfl (by first | exact SX.at0 | exact SX.at1 | exact SX.at2 | exact SX.at3 | exact SX.at4 | exact SX.at5 | exact Z.at6 | exact Z.at7 | exact Z.at8 | exact Z.at9 | exact Z.at10 | exact Z.at11 | exact Z.at12) (by first | omega | (simp [ints_length]; done) | (simp [ints_length]; omega)) ?_
        clear hs; intro ws hs
        simp only [Nat.zero_add, Nat.add_zero, Nat.reduceAdd, List.set_cons_zero, List.set_cons_succ, List.setIfInBounds_toArray] at hs
        refine Z.lnil ?_
        refine Z.only [1, 2] rfl ?_
        refine Z.nthen ?_
        refine Z.seq ?_
        refine Z.region ?_
        refine Z.l rfl rfl (by rfl) (Z.keepS hs) (by first | exact Z.Yd.loadA _ rfl Try.isAgg65 (fun _ => Z.cellsB (by first | ((repeat (first | exact List.mem_cons_self | refine List.mem_cons_of_mem _ ?_ | refine List.mem_append_right _ ?_)); done) | fail)) (by exact Try.sizeOf65) | fail "load 7.0") ?_
        refine Z.le rfl trivial ?_
        refine Z.ZO.storeA rfl rfl hs rfl rfl (by kernel_rfl) (by simp [Value.oneCell']) (by first | exact SX.at0 | exact SX.at1 | exact SX.at2 | exact SX.at3 | exact SX.at4 | exact SX.at5 | exact Z.at6 | exact Z.at7 | exact Z.at8 | exact Z.at9 | exact Z.at10 | exact Z.at11 | exact Z.at12) (by rfl) ?_
        clear hs; intro ws hs
        simp only [Nat.zero_add, Nat.add_zero, Nat.reduceAdd, List.set_cons_zero, List.set_cons_succ, List.setIfInBounds_toArray] at hs
        refine Z.lb 1 rfl ?_
        refine Z.lnil ?_
        refine Z.only [2, 3] rfl ?_
        refine Z.nthen ?_
        refine Z.ret ?_
        -- ret#1
        refine Z.out2 (by exact ⟨⟨_, rfl, Z.rvcA hs Try.isAgg65 (by first | ((repeat (first | exact List.mem_cons_self | refine List.mem_cons_of_mem _ ?_ | refine List.mem_append_right _ ?_)); done) | fail) (by exact Try.sizeOf65)⟩, rfl, trivial⟩) ?_
        refine ⟨_, rfl, ?_, hs.sub (List.nil_sublist _)⟩
        unfold alA alE
        rw [if_pos hz, if_pos hz, show ((a + toByte a : Nat) : Int) = ((a : Int) + 7) / 8 * 8 from by omega]
        )

set_option maxRecDepth 100000 in
theorem refgetall (A : Option Addr) (n c : Nat) (l : List Int) (a : Nat) (B : Option Addr) (m d : Nat) (ds : List Int) (w : World) (hx : Sl w A (ints .u8 (bits (unb l)))) (hn : n = l.length * 8) (hc : n ≤ c) (hll : l.length ≤ 1000000) (ha : a ≤ 8 * l.length)
    (hy : Sl w B (ints .i64 ds)) (hm : ds.length = m) (hm2 : m ≤ 1000000) :
    Calls Try.prog 47 #[.agg #[.slice A n c, .int .i64 (a : Int)], .slice B m d] w (SX.Ret fun r w' => ∃ so, r = .tuple #[.agg #[.slice A n c, .int .i64 ((if gsE l a ds = 0 then gsA l a ds else a : Nat) : Int)], so, .int .i64 (gsE l a ds)] ∧
      SX.St w [] w' [SX.Ent.row so 33 1 (if gsE l a ds = 0 then m else 0) (ints .u64 (if gsE l a ds = 0 then gsV l a ds else []))]) := by
  have hs := SX.St.start w
  refine Z.enter Try.func47 rfl Try.ntmps47 rfl rfl ?_
  refine Z.seq ?_
  refine Z.region ?_
  refine Z.le rfl trivial ?_
  refine Z.ZO.box rfl rfl (by rfl) rfl rfl hs ?_
  clear hs; intro g2 w2 hs
  refine Z.le rfl trivial ?_
  refine Z.ZO.alloc rfl rfl (by rfl) Try.zeroValue65 rfl hs ?_
  clear hs; intro g4 w4 hs
  refine Z.lb 2 rfl ?_
  refine Z.lnil ?_
  refine Z.only [1, 2, 4] rfl ?_
  refine Z.nthen ?_
  refine Z.seq ?_
  refine Z.region ?_
  refine Z.l rfl rfl (by rfl) (Z.keepS hs) (by first | exact Z.Yd.loadA _ rfl Try.isAgg65 (fun _ => Z.cellsB (by first | ((repeat (first | exact List.mem_cons_self | refine List.mem_cons_of_mem _ ?_ | refine List.mem_append_right _ ?_)); done) | fail)) (by exact Try.sizeOf65) | fail "load 1.0") ?_
  refine Z.le rfl trivial ?_
  refine Z.ZO.alloc rfl rfl (by rfl) Try.zeroValue65 rfl hs ?_
  clear hs; intro g7 w7 hs
  refine Z.le rfl trivial ?_
  refine Z.ZO.storeA rfl rfl hs rfl rfl (by kernel_rfl) (by simp [Value.oneCell']) (by first | exact SX.at0 | exact SX.at1 | exact SX.at2 | exact SX.at3 | exact SX.at4 | exact SX.at5 | exact Z.at6 | exact Z.at7 | exact Z.at8 | exact Z.at9 | exact Z.at10 | exact Z.at11 | exact Z.at12) (by rfl) ?_
  clear hs; intro ws hs
  simp only [Nat.zero_add, Nat.add_zero, Nat.reduceAdd, List.set_cons_zero, List.set_cons_succ, List.setIfInBounds_toArray] at hs
  refine Z.lnil ?_
  refine Z.only [1, 2, 4, 7] rfl ?_
  refine Z.nthen ?_
  refine Z.seq ?_
  refine Z.region ?_
  refine Z.lb 1 rfl ?_
  refine Z.lnil ?_
  refine Z.only [1, 2, 4, 7, 8] rfl ?_
  replace hs := hs.nil 33 1
  refine Z.nthen ?_
  refine Z.seq ?_
  refine Z.seq ?_
  refine Z.region ?_
  refine Z.lb 1 rfl ?_
  refine Z.lnil ?_
  refine Z.only [1, 2, 4, 7, 8, 9] rfl ?_
  refine Z.nthen ?_
  refine Z.block ?_
  refine Z.loopk (ι := Nat × Value) [1, 2, 4, 7] rfl (fun k => [(8, [], k.2), (9, [], .int .i64 (k.1 : Int))]) (fun k wr => k.1 ≤ m ∧ gsE l a (ds.take k.1) = 0 ∧ SX.St w [] wr [SX.Ent.row k.2 33 1 k.1 (ints .u64 (gsV l a (ds.take k.1))), SX.Ent.blk g7 65 #[.slice A n c, .int .i64 (a : Int)], SX.Ent.blk g4 65 #[.slice none 0 0, .int .i64 0], SX.Ent.blk g2 65 #[.slice A n c, .int .i64 ((gsA l a (ds.take k.1) : Nat) : Int)]]) (fun k => m - k.1) (0, .slice none 0 0) (by refine ⟨?_, ?_, trivial⟩ <;> (first | rfl | (refine Z.lookv rfl ?_; simp; done) | (refine Z.lookv rfl ?_; simp; omega))) ⟨by omega, rfl, hs⟩ ?_
  clear hs
  rintro ⟨k, so⟩ w1 ⟨hkm, hz, hs⟩
  refine Z.only [1, 2, 4, 7, 8, 9] rfl ?_
  dsimp only at hs
  dsimp only at hkm hz
  refine Z.seq ?_
  refine Z.seq ?_
  refine Z.region ?_
  refine Z.lb 2 rfl ?_
  refine Z.l rfl rfl (by rfl) (Z.keepS hs) (Z.Yd.lenS rfl Try.underlying48) ?_
  refine Z.lb 1 rfl ?_
  refine Z.lnil ?_
  refine Z.only [1, 2, 4, 7, 8, 9, 17] rfl ?_
  refine Z.nthen ?_
  refine Z.cond rfl (fun hc4 => ?_) (fun hc4 => ?_)
  · first
      | (exfalso; simp at hc4 <;> omega)
      | (
        (try simp at hc4)
        obtain ⟨b, off, rfl, hb, hy⟩ := Z.Sl.some hy (by simp [ints]; omega)
        have hwk : ds[k]? = some (elt ds (k : Int)) := by
          rw [List.getElem?_eq_getElem (by omega)]
          simp [elt, show k < ds.length by omega]
        have hga := gsA_le (l := l) (ws := ds.take k) ha
        refine Z.skip ?_
        refine Z.nthen ?_
        refine Z.seq ?_
        refine Z.block ?_
        refine Z.seq ?_
        refine Z.drawK (fun _ => true) mixed hs ?_
        clear hs; intro wd6 hs
        refine Z.t 0 rfl rfl rfl (by rfl) (by kernel_rfl) ⟨_, hs, by first | (simp; done) | exact fun e he => List.mem_append_right _ he⟩ (by first | exact Z.Yd.loadA _ rfl Try.isAgg65 (fun _ => Z.cellsB (by first | ((repeat (first | exact List.mem_cons_self | refine List.mem_cons_of_mem _ ?_ | refine List.mem_append_right _ ?_)); done) | fail)) (by exact Try.sizeOf65) | fail "load 6.0") ?_
        refine Z.tb [1, 2] (by kernel_rfl) rfl ⟨_, hs, by first | (simp; done) | exact fun e he => List.mem_append_right _ he⟩ rfl ?_
        refine Z.t 3 rfl rfl rfl (by rfl) (by kernel_rfl) ⟨_, hs, by first | (simp; done) | exact fun e he => List.mem_append_right _ he⟩ (Z.Yd.elem rfl rfl Try.underlying48 Try.sizeOf3 (fun hG => ⟨(by first | omega | (have hG' := Z.gh rfl hG; simp at hG'; omega)), (by first | omega | (have hG' := Z.gh rfl hG; simp at hG'; omega))⟩)) ?_
        refine Z.t 4 rfl rfl rfl (by rfl) (by kernel_rfl) ⟨_, hs, by first | (simp; done) | exact fun e he => List.mem_append_right _ he⟩ (Z.Yd.load rfl Try.isAgg3 (fun _ => Z.cellS hy rfl (by first | omega | (have hG' := Z.gh rfl hG; simp at hG'; omega)) (by first | omega | (have hG' := Z.gh rfl hG; simp at hG'; omega)))) ?_
        refine Z.fork2 5 10 rfl rfl rfl (by kernel_rfl) rfl rfl trivial trivial ?_ ?_
        · skip
          refine Z.ZO.call rfl rfl (by rfl) rfl rfl Try.call45 rfl (refget A n c l _ (elt ds (k : Int)) _ (hx.st (hs.sub (List.nil_sublist _))) hn hc hll hga) ?_
          rintro v6_5 w6_5 ⟨rfl, hy1⟩
          replace hs := hs.call hy1
          try simp only [List.nil_append] at hs
          refine Z.tk (Dn := fun _ => true) (i := 5) (fun _ => ⟨_, hs, by first | (simp; done) | exact fun e he => List.mem_append_right _ he⟩) ?_
          refine Z.tb [6, 7, 8, 9] (by kernel_rfl) rfl ⟨_, hs, by first | (simp; done) | exact fun e he => List.mem_append_right _ he⟩ rfl ?_
          refine Z.tn 10 rfl rfl (by kernel_rfl) rfl trivial ?_
          refine Z.ZO.alloc rfl rfl (by rfl) Try.zeroValue65 rfl hs ?_
          clear hs; intro g10 w10 hs
          refine Z.tk (Dn := fun _ => true) (i := 10) (fun _ => ⟨_, hs, by first | (simp; done) | exact fun e he => List.mem_append_right _ he⟩) ?_
          refine Z.tn 11 rfl rfl (by kernel_rfl) rfl trivial ?_
          refine Z.ZO.storeA rfl rfl hs rfl rfl (by kernel_rfl) (by simp [Value.oneCell']) (by first | exact SX.at0 | exact SX.at1 | exact SX.at2 | exact SX.at3 | exact SX.at4 | exact SX.at5 | exact Z.at6 | exact Z.at7 | exact Z.at8 | exact Z.at9 | exact Z.at10 | exact Z.at11 | exact Z.at12) (by rfl) ?_
          clear hs; intro ws hs
          simp only [Nat.zero_add, Nat.add_zero, Nat.reduceAdd, List.set_cons_zero, List.set_cons_succ, List.setIfInBounds_toArray] at hs
          refine Z.tk (Dn := fun _ => true) (i := 11) (fun _ => ⟨_, hs, by first | (simp; done) | exact fun e he => List.mem_append_right _ he⟩) ?_
          refine Z.tb [12, 13] (by kernel_rfl) rfl ⟨_, hs, by first | (simp; done) | exact fun e he => List.mem_append_right _ he⟩ rfl ?_
          refine Z.td (by rfl) (by kernel_rfl) ?_
          refine Z.only [1, 2, 4, 7, 8, 9, 10, 11, 12] rfl ?_
          refine Z.nthen ?_
          refine Z.seq ?_
          refine Z.seq ?_
          refine Z.region ?_
          refine Z.lb 2 rfl ?_
          refine Z.lnil ?_
          refine Z.only [1, 2, 4, 7, 8, 9, 10, 11, 12, 31] rfl ?_
          refine Z.nthen ?_
          refine Z.cond rfl (fun hc7 => ?_) (fun hc7 => ?_)
          · first
              | (exfalso; simp at hc7 <;> omega)
              | (
                (try simp at hc7)
                refine Z.seq ?_
                refine Z.region ?_
                refine Z.l rfl rfl (by rfl) (Z.keepS hs) (by first | exact Z.Yd.loadA _ rfl Try.isAgg65 (fun _ => Z.cellsB (by first | ((repeat (first | exact List.mem_cons_self | refine List.mem_cons_of_mem _ ?_ | refine List.mem_append_right _ ?_)); done) | fail)) (by exact Try.sizeOf65) | fail "load 8.0") ?_
                refine Z.lb 1 rfl ?_
                refine Z.le rfl trivial ?_
                refine Z.ZO.storeA rfl rfl hs rfl rfl (by kernel_rfl) (by simp [Value.oneCell']) (by first | exact SX.at0 | exact SX.at1 | exact SX.at2 | exact SX.at3 | exact SX.at4 | exact SX.at5 | exact Z.at6 | exact Z.at7 | exact Z.at8 | exact Z.at9 | exact Z.at10 | exact Z.at11 | exact Z.at12) (by rfl) ?_
                clear hs; intro ws hs
                simp only [Nat.zero_add, Nat.add_zero, Nat.reduceAdd, List.set_cons_zero, List.set_cons_succ, List.setIfInBounds_toArray] at hs
                refine Z.lb 2 rfl ?_
                refine Z.lnil ?_
                refine Z.only [4, 5, 6] rfl ?_
                refine Z.nthen ?_
                refine Z.ret ?_
                repeat (first | refine Z.rthen ?_ | refine Z.rblock ?_ | refine Z.rscope ?_)
                -- ret#0
                refine Z.out3 (by exact ⟨⟨_, rfl, Z.rvcA hs Try.isAgg65 (by first | ((repeat (first | exact List.mem_cons_self | refine List.mem_cons_of_mem _ ?_ | refine List.mem_append_right _ ?_)); done) | fail) (by exact Try.sizeOf65)⟩, rfl, rfl, trivial⟩) ?_
                have e := gsE_at hwk hz hc7
                refine ⟨_, rfl, .slice none 0 0, ?_, ?_⟩
                · rw [if_neg (by rw [e]; exact hc7), e]
                · rw [if_neg (by rw [e]; exact hc7), if_neg (by rw [e]; exact hc7)]
                  exact (hs.nil 33 1).sub (List.cons_sublist_cons.2 (List.nil_sublist _))
                )
          · first
              | (exfalso; simp at hc7 <;> omega)
              | (
                (try simp at hc7)
                refine Z.skip ?_
                refine Z.nthen ?_
                refine Z.seq ?_
                refine Z.region ?_
                refine Z.l rfl rfl (by rfl) (Z.keepS hs) (by first | exact Z.Yd.loadA _ rfl Try.isAgg65 (fun _ => Z.cellsB (by first | ((repeat (first | exact List.mem_cons_self | refine List.mem_cons_of_mem _ ?_ | refine List.mem_append_right _ ?_)); done) | fail)) (by exact Try.sizeOf65) | fail "load 9.0") ?_
                refine Z.le rfl trivial ?_
                refine Z.ZO.storeA rfl rfl hs rfl rfl (by kernel_rfl) (by simp [Value.oneCell']) (by first | exact SX.at0 | exact SX.at1 | exact SX.at2 | exact SX.at3 | exact SX.at4 | exact SX.at5 | exact Z.at6 | exact Z.at7 | exact Z.at8 | exact Z.at9 | exact Z.at10 | exact Z.at11 | exact Z.at12) (by rfl) ?_
                clear hs; intro ws hs
                simp only [Nat.zero_add, Nat.add_zero, Nat.reduceAdd, List.set_cons_zero, List.set_cons_succ, List.setIfInBounds_toArray] at hs
                refine Z.lnil ?_
                refine Z.only [1, 2, 4, 7, 8, 9, 11] rfl ?_
                refine Z.nthen ?_
                refine Z.region ?_
                refine Z.lb 2 rfl ?_
                refine Z.le rfl trivial ?_
                refine Z.ZO.lit rfl rfl (by rfl) rfl (by intro W; go_simp; exact rfl) hs ?_
                clear hs; intro g37 w37 hs
                refine Z.le rfl trivial ?_
                refine Z.ZO.append (i0 := Try.t33) (size := 1) (bytes := 8) rfl rfl (by rfl) hs Try.underlying53 (by kernel_rfl) rfl rfl rfl rfl (by decide) rfl rfl (by first | exact SX.at0 | exact SX.at1 | exact SX.at2 | exact SX.at3 | exact SX.at4 | exact SX.at5 | exact Z.at6 | exact Z.at7 | exact Z.at8 | exact Z.at9 | exact Z.at10 | exact Z.at11 | exact Z.at12) (by first | exact SX.at0 | exact SX.at1 | exact SX.at2 | exact SX.at3 | exact SX.at4 | exact SX.at5 | exact Z.at6 | exact Z.at7 | exact Z.at8 | exact Z.at9 | exact Z.at10 | exact Z.at11 | exact Z.at12) (by first | rfl | simp) (by simp [Value.oneCell']) (by decide) (by unfold maxLen; omega) (by omega) ?_
                clear hs; intro g38 cap38 w38 hs
                simp only [List.set_cons_zero, List.set_cons_succ, List.eraseIdx_cons_zero, List.eraseIdx_cons_succ] at hs
                refine Z.lb 1 rfl ?_
                refine Z.lnil ?_
                refine Z.only [1, 2, 4, 7, 8, 9] rfl ?_
                refine Z.nblock ?_
                refine Z.nthen ?_
                refine Z.region ?_
                refine Z.lb 1 rfl ?_
                refine Z.l rfl rfl (by rfl) (Z.keepS hs) (Z.Yd.add rfl rfl (fun hG => Z.wi64 (by first | omega | (have hG' := Z.gh rfl hG; simp at hG'; omega)))) ?_
                refine Z.lb 1 rfl ?_
                refine Z.lnil ?_
                refine Z.only [1, 2, 4, 7, 8, 9] rfl ?_
                refine Z.nthen ?_
                obtain ⟨e1, e2, e3⟩ := gs_snoc hwk hz hc7
                have e4 : ints .u64 (gsV l a (ds.take k)) ++ [.int .u64 (getV l (gsA l a (ds.take k)) (elt ds (k : Int)))] = ints .u64 (gsV l a (ds.take (k + 1))) := by rw [e3]; simp [ints]
                rw [e4, ← e2] at hs
                exact Z.again (k + 1, _) (by refine ⟨?_, ?_, ?_, ?_, ?_, ?_, trivial⟩ <;> (first | rfl | (refine Z.lookv rfl ?_; simp; done) | (refine Z.lookv rfl ?_; simp; omega))) ⟨by simp only; omega, e1, hs.tl⟩ (by simp only; omega)
                )
        · skip
          refine Z.ZO.alloc rfl rfl (by rfl) Try.zeroValue65 rfl hs ?_
          clear hs; intro g10 w10 hs
          refine Z.tk (Dn := fun _ => true) (i := 10) (fun _ => ⟨_, hs, by first | (simp; done) | exact fun e he => List.mem_append_right _ he⟩) ?_
          refine Z.tn 5 rfl rfl (by kernel_rfl) rfl trivial ?_
          refine Z.ZO.call rfl rfl (by rfl) rfl rfl Try.call45 rfl (refget A n c l _ (elt ds (k : Int)) _ (hx.st (hs.sub (List.nil_sublist _))) hn hc hll hga) ?_
          rintro v6_5 w6_5 ⟨rfl, hy1⟩
          replace hs := hs.call hy1
          try simp only [List.nil_append] at hs
          refine Z.tk (Dn := fun _ => true) (i := 5) (fun _ => ⟨_, hs, by first | (simp; done) | exact fun e he => List.mem_append_right _ he⟩) ?_
          refine Z.tb [6, 7, 8, 9] (by kernel_rfl) rfl ⟨_, hs, by first | (simp; done) | exact fun e he => List.mem_append_right _ he⟩ rfl ?_
          refine Z.tn 11 rfl rfl (by kernel_rfl) rfl trivial ?_
          refine Z.ZO.storeA rfl rfl hs rfl rfl (by kernel_rfl) (by simp [Value.oneCell']) (by first | exact SX.at0 | exact SX.at1 | exact SX.at2 | exact SX.at3 | exact SX.at4 | exact SX.at5 | exact Z.at6 | exact Z.at7 | exact Z.at8 | exact Z.at9 | exact Z.at10 | exact Z.at11 | exact Z.at12) (by rfl) ?_
          clear hs; intro ws hs
          simp only [Nat.zero_add, Nat.add_zero, Nat.reduceAdd, List.set_cons_zero, List.set_cons_succ, List.setIfInBounds_toArray] at hs
          refine Z.tk (Dn := fun _ => true) (i := 11) (fun _ => ⟨_, hs, by first | (simp; done) | exact fun e he => List.mem_append_right _ he⟩) ?_
          refine Z.tb [12, 13] (by kernel_rfl) rfl ⟨_, hs, by first | (simp; done) | exact fun e he => List.mem_append_right _ he⟩ rfl ?_
          refine Z.td (by rfl) (by kernel_rfl) ?_
          refine Z.only [1, 2, 4, 7, 8, 9, 10, 11, 12] rfl ?_
          refine Z.nthen ?_
          refine Z.seq ?_
          refine Z.seq ?_
          refine Z.region ?_
          refine Z.lb 2 rfl ?_
          refine Z.lnil ?_
          refine Z.only [1, 2, 4, 7, 8, 9, 10, 11, 12, 31] rfl ?_
          refine Z.nthen ?_
          refine Z.cond rfl (fun hc7 => ?_) (fun hc7 => ?_)
          · first
              | (exfalso; simp at hc7 <;> omega)
              | (
                (try simp at hc7)
                refine Z.seq ?_
                refine Z.region ?_
                refine Z.l rfl rfl (by rfl) (Z.keepS hs) (by first | exact Z.Yd.loadA _ rfl Try.isAgg65 (fun _ => Z.cellsB (by first | ((repeat (first | exact List.mem_cons_self | refine List.mem_cons_of_mem _ ?_ | refine List.mem_append_right _ ?_)); done) | fail)) (by exact Try.sizeOf65) | fail "load 8.0") ?_
                refine Z.lb 1 rfl ?_
                refine Z.le rfl trivial ?_
                refine Z.ZO.storeA rfl rfl hs rfl rfl (by kernel_rfl) (by simp [Value.oneCell']) (by first | exact SX.at0 | exact SX.at1 | exact SX.at2 | exact SX.at3 | exact SX.at4 | exact SX.at5 | exact Z.at6 | exact Z.at7 | exact Z.at8 | exact Z.at9 | exact Z.at10 | exact Z.at11 | exact Z.at12) (by rfl) ?_
                clear hs; intro ws hs
                simp only [Nat.zero_add, Nat.add_zero, Nat.reduceAdd, List.set_cons_zero, List.set_cons_succ, List.setIfInBounds_toArray] at hs
                refine Z.lb 2 rfl ?_
                refine Z.lnil ?_
                refine Z.only [4, 5, 6] rfl ?_
                refine Z.nthen ?_
                refine Z.ret ?_
                repeat (first | refine Z.rthen ?_ | refine Z.rblock ?_ | refine Z.rscope ?_)
                -- ret#1
                refine Z.out3 (by exact ⟨⟨_, rfl, Z.rvcA hs Try.isAgg65 (by first | ((repeat (first | exact List.mem_cons_self | refine List.mem_cons_of_mem _ ?_ | refine List.mem_append_right _ ?_)); done) | fail) (by exact Try.sizeOf65)⟩, rfl, rfl, trivial⟩) ?_
                have e := gsE_at hwk hz hc7
                refine ⟨_, rfl, .slice none 0 0, ?_, ?_⟩
                · rw [if_neg (by rw [e]; exact hc7), e]
                · rw [if_neg (by rw [e]; exact hc7), if_neg (by rw [e]; exact hc7)]
                  exact (hs.nil 33 1).sub (List.cons_sublist_cons.2 (List.nil_sublist _))
                )
          · first
              | (exfalso; simp at hc7 <;> omega)
              | (
                (try simp at hc7)
                refine Z.skip ?_
                refine Z.nthen ?_
                refine Z.seq ?_
                refine Z.region ?_
                refine Z.l rfl rfl (by rfl) (Z.keepS hs) (by first | exact Z.Yd.loadA _ rfl Try.isAgg65 (fun _ => Z.cellsB (by first | ((repeat (first | exact List.mem_cons_self | refine List.mem_cons_of_mem _ ?_ | refine List.mem_append_right _ ?_)); done) | fail)) (by exact Try.sizeOf65) | fail "load 9.0") ?_
                refine Z.le rfl trivial ?_
                refine Z.ZO.storeA rfl rfl hs rfl rfl (by kernel_rfl) (by simp [Value.oneCell']) (by first | exact SX.at0 | exact SX.at1 | exact SX.at2 | exact SX.at3 | exact SX.at4 | exact SX.at5 | exact Z.at6 | exact Z.at7 | exact Z.at8 | exact Z.at9 | exact Z.at10 | exact Z.at11 | exact Z.at12) (by rfl) ?_
                clear hs; intro ws hs
                simp only [Nat.zero_add, Nat.add_zero, Nat.reduceAdd, List.set_cons_zero, List.set_cons_succ, List.setIfInBounds_toArray] at hs
                refine Z.lnil ?_
                refine Z.only [1, 2, 4, 7, 8, 9, 11] rfl ?_
                refine Z.nthen ?_
                refine Z.region ?_
                refine Z.lb 2 rfl ?_
                refine Z.le rfl trivial ?_
                refine Z.ZO.lit rfl rfl (by rfl) rfl (by intro W; go_simp; exact rfl) hs ?_
                clear hs; intro g37 w37 hs
                refine Z.le rfl trivial ?_
                refine Z.ZO.append (i0 := Try.t33) (size := 1) (bytes := 8) rfl rfl (by rfl) hs Try.underlying53 (by kernel_rfl) rfl rfl rfl rfl (by decide) rfl rfl (by first | exact SX.at0 | exact SX.at1 | exact SX.at2 | exact SX.at3 | exact SX.at4 | exact SX.at5 | exact Z.at6 | exact Z.at7 | exact Z.at8 | exact Z.at9 | exact Z.at10 | exact Z.at11 | exact Z.at12) (by first | exact SX.at0 | exact SX.at1 | exact SX.at2 | exact SX.at3 | exact SX.at4 | exact SX.at5 | exact Z.at6 | exact Z.at7 | exact Z.at8 | exact Z.at9 | exact Z.at10 | exact Z.at11 | exact Z.at12) (by first | rfl | simp) (by simp [Value.oneCell']) (by decide) (by unfold maxLen; omega) (by omega) ?_
                clear hs; intro g38 cap38 w38 hs
                simp only [List.set_cons_zero, List.set_cons_succ, List.eraseIdx_cons_zero, List.eraseIdx_cons_succ] at hs
                refine Z.lb 1 rfl ?_
                refine Z.lnil ?_
                refine Z.only [1, 2, 4, 7, 8, 9] rfl ?_
                refine Z.nblock ?_
                refine Z.nthen ?_
                refine Z.region ?_
                refine Z.lb 1 rfl ?_
                refine Z.l rfl rfl (by rfl) (Z.keepS hs) (Z.Yd.add rfl rfl (fun hG => Z.wi64 (by first | omega | (have hG' := Z.gh rfl hG; simp at hG'; omega)))) ?_
                refine Z.lb 1 rfl ?_
                refine Z.lnil ?_
                refine Z.only [1, 2, 4, 7, 8, 9] rfl ?_
                refine Z.nthen ?_
                obtain ⟨e1, e2, e3⟩ := gs_snoc hwk hz hc7
                have e4 : ints .u64 (gsV l a (ds.take k)) ++ [.int .u64 (getV l (gsA l a (ds.take k)) (elt ds (k : Int)))] = ints .u64 (gsV l a (ds.take (k + 1))) := by rw [e3]; simp [ints]
                rw [e4, ← e2] at hs
                exact Z.again (k + 1, _) (by refine ⟨?_, ?_, ?_, ?_, ?_, ?_, trivial⟩ <;> (first | rfl | (refine Z.lookv rfl ?_; simp; done) | (refine Z.lookv rfl ?_; simp; omega))) ⟨by simp only; omega, e1, hs.tl⟩ (by simp only; omega)
                )
        )
  · first
      | (exfalso; simp at hc4 <;> omega)
      | (
        (try simp at hc4)
        refine Z.exit ?_
        refine Z.xthen ?_
        refine Z.xthen ?_
        refine Z.xblock ?_
        refine Z.nthen ?_
        refine Z.seq ?_
        refine Z.region ?_
        refine Z.l rfl rfl (by rfl) (Z.keepS hs) (by first | exact Z.Yd.loadA _ rfl Try.isAgg65 (fun _ => Z.cellsB (by first | ((repeat (first | exact List.mem_cons_self | refine List.mem_cons_of_mem _ ?_ | refine List.mem_append_right _ ?_)); done) | fail)) (by exact Try.sizeOf65) | fail "load 11.0") ?_
        refine Z.lb 1 rfl ?_
        refine Z.le rfl trivial ?_
        refine Z.ZO.storeA rfl rfl hs rfl rfl (by kernel_rfl) (by simp [Value.oneCell']) (by first | exact SX.at0 | exact SX.at1 | exact SX.at2 | exact SX.at3 | exact SX.at4 | exact SX.at5 | exact Z.at6 | exact Z.at7 | exact Z.at8 | exact Z.at9 | exact Z.at10 | exact Z.at11 | exact Z.at12) (by rfl) ?_
        clear hs; intro ws hs
        simp only [Nat.zero_add, Nat.add_zero, Nat.reduceAdd, List.set_cons_zero, List.set_cons_succ, List.setIfInBounds_toArray] at hs
        refine Z.lb 2 rfl ?_
        refine Z.lnil ?_
        refine Z.only [4, 5, 6] rfl ?_
        refine Z.nthen ?_
        refine Z.ret ?_
        -- ret#2
        refine Z.out3 (by exact ⟨⟨_, rfl, Z.rvcA hs Try.isAgg65 (by first | ((repeat (first | exact List.mem_cons_self | refine List.mem_cons_of_mem _ ?_ | refine List.mem_append_right _ ?_)); done) | fail) (by exact Try.sizeOf65)⟩, rfl, rfl, trivial⟩) ?_
        obtain rfl : k = m := by omega
        rw [List.take_of_length_le (by omega)] at hz hs
        refine ⟨_, rfl, so, ?_, ?_⟩
        · rw [List.take_of_length_le (by omega), if_pos hz, hz]
        · rw [if_pos hz, if_pos hz]
          exact hs.sub (List.cons_sublist_cons.2 (List.nil_sublist _))
        )
end Go.Proofs.Ytggikablbdhniaa
