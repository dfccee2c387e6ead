/- FieldReads. -/
import Derived.Test.YtggikablbdhniaaFzb
namespace Go.Proofs.Ytggikablbdhniaa
open Go.RowKit
set_option linter.unusedSimpArgs false
set_option linter.unusedVariables false

set_option maxRecDepth 100000 in
theorem fieldReads_walk (A : Option Addr) (c : Nat) (l : List Int) (B : Option Addr) (m d : Nat) (ks : List AskV) (w : World) (hx : Sl w A (ints .u8 l)) (hn : l.length ≤ maxLen) (hb : ∀ x ∈ l, 0 ≤ x ∧ x < 256)
    (hy : Sl w B (ks.flatMap encK)) (hm : ks.length = m) (hm2 : m ≤ maxLen) (hg : ∀ x ∈ ks, GoodK w x) :
    Calls Try.prog 7 #[.slice A l.length c, .slice B m d] w (SX.Ret fun r w' => r = .bool true ∧ SX.St w [] w' []) := by
  have hs := SX.St.start w
  have hmx : maxLen = 9223372036854775807 := rfl
  replace hy := hy.sx
  have hfl : (ks.flatMap encK).length = m * 3 := by rw [Z.flat_length (s := 3) encK_length, hm]
  refine Z.enter Try.func7 rfl Try.ntmps7 rfl rfl ?_
  refine Z.seq ?_
  refine Z.region ?_
  refine Z.lb 1 rfl ?_
  refine Z.lnil ?_
  refine Z.only [0, 1] rfl ?_
  refine Z.nthen ?_
  refine Z.seq ?_
  refine Z.seq ?_
  refine Z.region ?_
  refine Z.lb 1 rfl ?_
  refine Z.l rfl rfl (by rfl) (Z.keepS hs) (Z.Yd.lenS rfl Try.underlying25) ?_
  refine Z.lb 2 rfl ?_
  refine Z.split (s := 15) rfl (fun hsp15 => ?_) (fun hsp15 => ?_)
  · first
      | (exfalso; simp at hsp15 <;> omega)
      | (
        refine Z.yes (s := 15) (b := true) rfl hsp15 rfl ?_
        (try simp at hsp15)
        refine Z.ls rfl rfl rfl (by rfl) ?_
        refine Z.ls rfl rfl rfl (by rfl) ?_
        refine Z.ls rfl rfl rfl (by rfl) ?_
        refine Z.l rfl rfl (by rfl) (Z.keepS hs) (Z.Yd.pickT rfl rfl) ?_
        refine Z.lnil ?_
        refine Z.only [0, 1, 19] rfl ?_
        refine Z.nthen ?_
        refine Z.cond rfl (fun hc1 => ?_) (fun hc1 => ?_)
        · first
            | (exfalso; simp at hc1 <;> omega)
            | (
              (try simp at hc1)
              refine Z.seq ?_
              refine Z.region ?_
              refine Z.le rfl trivial ?_
              refine Z.ZO.call rfl rfl (by rfl) rfl rfl Try.call10 rfl (works_any _) ?_
              rintro v2_0 w2_0 ⟨rfl, hy1⟩
              replace hs := hs.call hy1
              refine Z.lb 1 rfl ?_
              refine Z.lnil ?_
              refine Z.only [4] rfl ?_
              refine Z.nthen ?_
              refine Z.ret ?_
              repeat (first | refine Z.rthen ?_ | refine Z.rblock ?_ | refine Z.rscope ?_)
              -- ret#0
              refine Z.out1 (by exact ⟨rfl, trivial⟩) ?_
              first | exact ⟨_, rfl, rfl, hs⟩ | exact ⟨_, rfl, rfl, hs.sub (List.nil_sublist _)⟩
              )
        · first
            | (exfalso; simp at hc1 <;> omega)
            | (
              (try simp at hc1)
              refine Z.skip ?_
              refine Z.nthen ?_
              refine Z.seq ?_
              refine Z.region ?_
              refine Z.le rfl trivial ?_
              refine Z.ZO.empty rfl rfl (by rfl) Try.underlying25 Try.sizeOf5 hs ?_
              clear hs; intro g21 w21 hs
              refine Z.lb 1 rfl ?_
              refine Z.le rfl trivial ?_
              refine Z.ZO.appendG (i0 := Try.t5) (size := 1) (bytes := 1) rfl rfl (by rfl) hs Try.underlying25 (by kernel_rfl) rfl rfl rfl rfl (by decide) rfl rfl (by first | exact SX.at0 | exact SX.at1 | exact SX.at2 | exact SX.at3 | exact SX.at4 | exact SX.at5 | exact Z.at6 | exact Z.at7 | exact Z.at8 | exact Z.at9 | exact Z.at10 | exact Z.at11 | exact Z.at12) (hx.st hs) (by first | rfl | (simp [ints_length]; done) | (simp [ints_length]; omega)) (by first | exact Z.ints_one | simp [Value.oneCell']) (by unfold maxLen; omega) (by omega) ?_
              clear hs; intro v23 w23 hs
              simp only [List.set_cons_zero, List.set_cons_succ] at hs
              rw [List.nil_append, Nat.zero_add] at hs
              obtain ⟨Ao, co, rfl, -, -, -⟩ := SX.row_slv hs (j := 0) rfl
              refine Z.lb 1 rfl ?_
              refine Z.lnil ?_
              refine Z.only [0, 1, 5] rfl ?_
              refine Z.nthen ?_
              refine Z.seq ?_
              refine Z.region ?_
              refine Z.lb 1 rfl ?_
              refine Z.le rfl trivial ?_
              refine Z.ZO.call rfl rfl (by rfl) rfl rfl Try.call21 rfl (newreader_any Ao _ co l _ (Z.row_lentv (L1 := []) hs (j := 0) rfl) rfl (by omega) (SX.row_none hs (j := 0) rfl)) ?_
              rintro v4_1 w4_1 ⟨gr, svr, rfl, hy1⟩
              replace hs := hs.call hy1
              refine Z.lb 1 rfl ?_
              refine Z.le rfl trivial ?_
              refine Z.ZO.call rfl rfl (by rfl) rfl rfl Try.call29 rfl (refnew A _ c l _ (hx.st hs) rfl (by omega) hb) ?_
              rintro v4_3 w4_3 ⟨Ab, nb, cb, rfl, hnb, hy1⟩
              replace hs := hs.call hy1
              refine Z.le rfl trivial ?_
              refine Z.ZO.alloc rfl rfl (by rfl) Try.zeroValue65 rfl hs ?_
              clear hs; intro g7 w7 hs
              refine Z.lb 1 rfl ?_
              refine Z.le rfl trivial ?_
              refine Z.ZO.storeA rfl rfl hs rfl rfl (by kernel_rfl) (by simp [Value.oneCell']) (by first | exact SX.at0 | exact SX.at1 | exact SX.at2 | exact SX.at3 | exact SX.at4 | exact SX.at5 | exact Z.at6 | exact Z.at7 | exact Z.at8 | exact Z.at9 | exact Z.at10 | exact Z.at11 | exact Z.at12) (by rfl) ?_
              clear hs; intro ws hs
              simp only [Nat.zero_add, Nat.add_zero, Nat.reduceAdd, List.set_cons_zero, List.set_cons_succ, List.setIfInBounds_toArray] at hs
              refine Z.lnil ?_
              refine Z.only [1, 5, 6, 7] rfl ?_
              obtain ⟨_, _, e0, hcb, hcb2, -⟩ := SX.row_slv hs (j := 1) rfl
              simp only [Value.slice.injEq] at e0
              obtain ⟨-, -, rfl⟩ := e0
              obtain ⟨Lr, hLr⟩ : ∃ Lr, Lr = SX.Ent.row (.slice Ab nb cb) 5 1 nb (ints .u8 (bits (unb l))) := ⟨_, rfl⟩
              replace hs : SX.St w [] _ (RdL gr 73 svr l 0 ++ [SX.Ent.blk g7 65 #[.slice Ab nb cb, .int .i64 0], SX.Ent.row (.slice Ab nb cb) 5 1 nb (ints .u8 (bits (unb l))), SX.Ent.row (.slice Ao l.length co) 5 1 l.length (ints .u8 l)]) := hs.sel [2, 3, 0, 1, 4] (by decide)
              refine Z.nthen ?_
              refine Z.seq ?_
              refine Z.seq ?_
              refine Z.region ?_
              refine Z.lb 1 rfl ?_
              refine Z.l rfl rfl (by rfl) (Z.keepS hs) (Z.Yd.ptrNil rfl rfl Try.underlying51) ?_
              refine Z.lnil ?_
              refine Z.only [1, 5, 6, 7, 29] rfl ?_
              refine Z.nthen ?_
              refine Z.cond rfl (fun h => absurd h (by simp)) (fun hc5 => ?_)
              refine Z.skip ?_
              refine Z.nthen ?_
              refine Z.seq ?_
              refine Z.seq ?_
              refine Z.region ?_
              refine Z.lb 1 rfl ?_
              refine Z.lnil ?_
              refine Z.only [1, 5, 6, 7, 8] rfl ?_
              refine Z.nthen ?_
              refine Z.block ?_
              refine Z.loopk (ι := Nat × List Int) [1, 5, 6, 7] rfl (fun k => [(8, [], .int .i64 (k.1 : Int))]) (fun k wr => k.1 ≤ l.length ∧ k.2.length = l.length ∧ SX.St w [] wr (RdL gr 73 svr l 0 ++ [SX.Ent.blk g7 65 #[.slice Ab nb cb, .int .i64 0], SX.Ent.row (.slice Ab nb cb) 5 1 nb (ints .u8 (bits (unb l))), SX.Ent.row (.slice Ao l.length co) 5 1 l.length (ints .u8 k.2)])) (fun k => l.length - k.1) (0, l) (by refine ⟨?_, trivial⟩ <;> (first | rfl | (refine Z.lookv rfl ?_; simp; done) | (refine Z.lookv rfl ?_; simp; omega))) ⟨by omega, rfl, hs⟩ ?_
              clear hs
              rintro ⟨k, l1⟩ w2 ⟨hkm, hbm, hs⟩
              refine Z.only [1, 5, 6, 7, 8] rfl ?_
              dsimp only at hs
              dsimp only at hkm hbm
              simp only [RdL, List.cons_append, List.nil_append] at hs
              refine Z.seq ?_
              refine Z.seq ?_
              refine Z.region ?_
              refine Z.lb 2 rfl ?_
              refine Z.l rfl rfl (by rfl) (Z.keepS hs) (Z.Yd.lenS rfl Try.underlying25) ?_
              refine Z.lb 1 rfl ?_
              refine Z.lnil ?_
              refine Z.only [1, 5, 6, 7, 8, 33] rfl ?_
              refine Z.nthen ?_
              refine Z.cond rfl (fun hc8 => ?_) (fun hc8 => ?_)
              · first
                  | (exfalso; simp at hc8 <;> omega)
                  | (
                    (try simp at hc8)
                    obtain ⟨go, co', e, -, -⟩ := row_form (j := 4) hs rfl (by omega)
                    simp only [Value.slice.injEq, true_and] at e
                    obtain ⟨rfl, rfl⟩ := e
                    refine Z.skip ?_
                    refine Z.nthen ?_
                    refine Z.seq ?_
                    refine Z.block ?_
                    refine Z.region ?_
                    refine Z.lb 2 rfl ?_
                    refine Z.l rfl rfl (by rfl) (Z.keepS hs) (Z.Yd.elem rfl rfl Try.underlying25 Try.sizeOf5 (fun hG => ⟨(by first | omega | (have hG' := Z.gh rfl hG; simp at hG'; omega)), (by first | omega | (have hG' := Z.gh rfl hG; simp at hG'; omega))⟩)) ?_
                    refine Z.l rfl rfl (by rfl) (Z.keepS hs) (by first | exact Z.Yd.load rfl Try.isAgg5 (fun hG => Z.cellR (by first | ((repeat (first | exact List.mem_cons_self | refine List.mem_cons_of_mem _ ?_ | refine List.mem_append_right _ ?_)); done) | fail) (Z.ints_at (by first | omega | (have hG' := Z.gh rfl hG; simp at hG'; omega)) (by first | omega | (have hG' := Z.gh rfl hG; simp at hG'; omega)))) | exact Z.Yd.load rfl Try.isAgg5 (fun hG => Z.cellXi (by assumption) (by first | omega | (have hG' := Z.gh rfl hG; simp at hG'; omega)) (by first | omega | (have hG' := Z.gh rfl hG; simp at hG'; omega))) | exact Z.Yd.load rfl Try.isAgg5 (fun hG => Z.cellS (by assumption) rfl (by first | omega | (have hG' := Z.gh rfl hG; simp at hG'; omega)) (by first | omega | (have hG' := Z.gh rfl hG; simp at hG'; omega))) | fail "load 10.3") ?_
                    refine Z.l rfl rfl (by rfl) (Z.keepS hs) (Z.Yd.add rfl rfl (fun _ => rfl)) ?_
                    refine Z.l rfl rfl (by rfl) (Z.keepS hs) (Z.Yd.elem rfl rfl Try.underlying25 Try.sizeOf5 (fun hG => ⟨(by first | omega | (have hG' := Z.gh rfl hG; simp at hG'; omega)), (by first | omega | (have hG' := Z.gh rfl hG; simp at hG'; omega))⟩)) ?_
                    refine Z.le rfl trivial ?_
                    first | refine Z.ZO.store rfl rfl hs Try.sizeOf5 rfl rfl rfl (by first | exact SX.at0 | exact SX.at1 | exact SX.at2 | exact SX.at3 | exact SX.at4 | exact SX.at5 | exact Z.at6 | exact Z.at7 | exact Z.at8 | exact Z.at9 | exact Z.at10 | exact Z.at11 | exact Z.at12) (by simp) ?_ | refine Z.ZO.storeR rfl rfl hs Try.sizeOf5 rfl rfl rfl (by first | exact SX.at0 | exact SX.at1 | exact SX.at2 | exact SX.at3 | exact SX.at4 | exact SX.at5 | exact Z.at6 | exact Z.at7 | exact Z.at8 | exact Z.at9 | exact Z.at10 | exact Z.at11 | exact Z.at12) (by first | omega | (simp [ints_length]; done) | (simp [ints_length]; omega)) ?_
                    clear hs; intro ws hs
                    simp only [Nat.zero_add, Nat.add_zero, Nat.reduceAdd, List.set_cons_zero, List.set_cons_succ, List.setIfInBounds_toArray] at hs
                    refine Z.lnil ?_
                    refine Z.only [1, 5, 6, 7, 8] rfl ?_
                    refine Z.nblock ?_
                    refine Z.nthen ?_
                    refine Z.region ?_
                    refine Z.lb 1 rfl ?_
                    refine Z.l rfl rfl (by rfl) (Z.keepS hs) (Z.Yd.add rfl rfl (fun hG => Z.wi64 (by first | omega | (have hG' := Z.gh rfl hG; simp at hG'; omega)))) ?_
                    refine Z.lb 1 rfl ?_
                    refine Z.lnil ?_
                    refine Z.only [1, 5, 6, 7, 8] rfl ?_
                    refine Z.nthen ?_
                    rw [ints_set] at hs
                    exact Z.again (k + 1, _) (by refine ⟨?_, ?_, ?_, ?_, ?_, trivial⟩ <;> (first | rfl | (refine Z.lookv rfl ?_; simp; done) | (refine Z.lookv rfl ?_; simp; omega))) ⟨by simp only; omega, by simpa using hbm, hs⟩ (by simp only; omega)
                    )
              · first
                  | (exfalso; simp at hc8 <;> omega)
                  | (
                    (try simp at hc8)
                    refine Z.exit ?_
                    refine Z.xthen ?_
                    refine Z.xthen ?_
                    refine Z.xblock ?_
                    refine Z.nthen ?_
                    refine Z.seq ?_
                    refine Z.seq ?_
                    refine Z.region ?_
                    refine Z.lb 1 rfl ?_
                    refine Z.lnil ?_
                    refine Z.only [1, 6, 7, 9] rfl ?_
                    refine Z.nthen ?_
                    refine Z.block ?_
                    refine Z.loopk (ι := Nat × Nat) [1, 6, 7] rfl (fun k => [(9, [], .int .i64 (k.1 : Int))]) (fun k wr => k.1 ≤ m ∧ k.2 ≤ 8 * l.length ∧ SX.St w [] wr (RdL gr 73 svr l k.2 ++ [SX.Ent.blk g7 65 #[.slice Ab nb cb, .int .i64 (k.2 : Int)], SX.Ent.row (.slice Ab nb cb) 5 1 nb (ints .u8 (bits (unb l)))])) (fun k => m - k.1) (0, 0) (by refine ⟨?_, trivial⟩ <;> (first | rfl | (refine Z.lookv rfl ?_; simp; done) | (refine Z.lookv rfl ?_; simp; omega))) ⟨by omega, by omega, hs.sel [0, 1, 2, 3] (by decide)⟩ ?_
                    clear hs
                    rintro ⟨k2, a⟩ w3 ⟨hk2, ha, hs⟩
                    refine Z.only [1, 6, 7, 9] rfl ?_
                    dsimp only at hs
                    dsimp only at hk2 ha
                    simp only [RdL, List.cons_append, List.nil_append] at hs
                    refine Z.seq ?_
                    refine Z.seq ?_
                    refine Z.region ?_
                    refine Z.lb 2 rfl ?_
                    refine Z.l rfl rfl (by rfl) (Z.keepS hs) (Z.Yd.lenS rfl Try.underlying63) ?_
                    refine Z.lb 1 rfl ?_
                    refine Z.lnil ?_
                    refine Z.only [1, 6, 7, 9, 45] rfl ?_
                    refine Z.nthen ?_
                    refine Z.cond rfl (fun hc12 => ?_) (fun hc12 => ?_)
                    · first
                        | (exfalso; simp at hc12 <;> omega)
                        | (
                          (try simp at hc12)
                          obtain ⟨b, off, rfl, hy⟩ := hy.some (by omega)
                          obtain ⟨x, hf⟩ : ∃ x, ks[k2]? = some x := ⟨_, List.getElem?_eq_getElem (by omega)⟩
                          have hgx := hg _ (List.mem_of_getElem? hf)
                          have h63 := hgx.l63
                          refine Z.skip ?_
                          refine Z.nthen ?_
                          refine Z.seq ?_
                          refine Z.block ?_
                          refine Z.seq ?_
                          refine Z.seq ?_
                          refine Z.region ?_
                          refine Z.lb 2 rfl ?_
                          refine Z.l rfl rfl (by rfl) (Z.keepS hs) (Z.Yd.elem rfl rfl Try.underlying63 Try.sizeOf68 (fun hG => ⟨(by first | omega | (have hG' := Z.gh rfl hG; simp at hG'; omega)), (by first | omega | (have hG' := Z.gh rfl hG; simp at hG'; omega))⟩)) ?_
                          refine Z.l rfl rfl (by rfl) (Z.keepS hs) (Z.Yd.fieldA (m := 2) rfl (by kernel_rfl)) ?_
                          refine Z.l rfl rfl (by rfl) (Z.keepS hs) (Z.Yd.load rfl Try.isAgg48 (fun _ => Z.cellXq (j := 2) hy encK_length hf rfl)) ?_
                          refine Z.l rfl rfl (by rfl) (Z.keepS hs) (Z.Yd.lenS rfl Try.underlying48) ?_
                          refine Z.lb 1 rfl ?_
                          refine Z.lnil ?_
                          refine Z.only [1, 6, 7, 9, 54] rfl ?_
                          refine Z.nthen ?_
                          refine Z.cond rfl (fun hc14 => ?_) (fun hc14 => ?_)
                          · first
                              | (exfalso; simp at hc14 <;> omega)
                              | (
                                (try simp at hc14)
                                refine Z.seq ?_
                                refine Z.region ?_
                                refine Z.le rfl trivial ?_
                                refine Z.ZO.call rfl rfl (by rfl) rfl rfl Try.call10 rfl (works_any _) ?_
                                rintro v15_0 w15_0 ⟨rfl, hy1⟩
                                replace hs := hs.call hy1
                                refine Z.lb 1 rfl ?_
                                refine Z.lnil ?_
                                refine Z.only [4] rfl ?_
                                refine Z.nthen ?_
                                refine Z.ret ?_
                                repeat (first | refine Z.rthen ?_ | refine Z.rblock ?_ | refine Z.rscope ?_)
                                -- ret#1
                                refine Z.out1 (by exact ⟨rfl, trivial⟩) ?_
                                first | exact ⟨_, rfl, rfl, hs⟩ | exact ⟨_, rfl, rfl, hs.sub (List.nil_sublist _)⟩
                                )
                          · first
                              | (exfalso; simp at hc14 <;> omega)
                              | (
                                (try simp at hc14)
                                refine Z.skip ?_
                                refine Z.nthen ?_
                                refine Z.seq ?_
                                refine Z.drawL [SX.Ent.blk g7 65 #[.slice Ab nb cb, .int .i64 (a : Int)]] (fun _ => true) mixed hs ?_
                                clear hs; intro wd16 hs
                                refine Z.tb [0] (by kernel_rfl) rfl ⟨_, hs, by first | (simp; done) | exact fun e he => List.mem_append_right _ he⟩ rfl ?_
                                refine Z.t 1 rfl rfl rfl (by rfl) (by kernel_rfl) ⟨_, hs, by first | (simp; done) | exact fun e he => List.mem_append_right _ he⟩ (by first | exact Z.Yd.loadA _ rfl Try.isAgg65 (fun _ => Z.cellsB (by first | ((repeat (first | exact List.mem_cons_self | refine List.mem_cons_of_mem _ ?_ | refine List.mem_append_right _ ?_)); done) | fail)) (by exact Try.sizeOf65) | fail "load 16.1") ?_
                                refine Z.tb [2, 3] (by kernel_rfl) rfl ⟨_, hs, by first | (simp; done) | exact fun e he => List.mem_append_right _ he⟩ rfl ?_
                                refine Z.t 4 rfl rfl rfl (by rfl) (by kernel_rfl) ⟨_, hs, by first | (simp; done) | exact fun e he => List.mem_append_right _ he⟩ (Z.Yd.elem rfl rfl Try.underlying63 Try.sizeOf68 (fun hG => ⟨(by first | omega | (have hG' := Z.gh rfl hG; simp at hG'; omega)), (by first | omega | (have hG' := Z.gh rfl hG; simp at hG'; omega))⟩)) ?_
                                refine Z.t 5 rfl rfl rfl (by rfl) (by kernel_rfl) ⟨_, hs, by first | (simp; done) | exact fun e he => List.mem_append_right _ he⟩ (Z.Yd.loadA _ rfl Try.isAgg68 (fun _ => Z.cellsX (encK x) hy encK_length hf rfl) (by exact Try.sizeOf68)) ?_
                                refine Z.fork2 6 10 rfl rfl rfl (by kernel_rfl) rfl rfl trivial trivial ?_ ?_
                                · skip
                                  first
                                  | (replace hs : SX.St w [] _ (RdL gr 73 svr l a ++ [SX.Ent.blk g7 65 #[.slice Ab nb cb, .int .i64 (a : Int)], SX.Ent.row (.slice Ab nb cb) 5 1 nb (ints .u8 (bits (unb l))), SX.Ent.blk g10 65 #[.slice none 0 0, .int .i64 0]]) := hs.sel [1, 2, 3, 4, 0] (by decide))
                                  | skip
                                  refine Z.ZO.call rfl rfl (by rfl) rfl rfl Try.call30 rfl (ask_any gr _ svr l a Ab nb cb x _ (hs.lend (L1 := RdL _ _ _ _ _)) (Z.row_lentv (L1 := RdL _ _ _ _ _) hs (j := 1) rfl) hnb hcb (by omega) ha hb (hgx.ls.sx.lent (L1 := RdL _ _ _ _ _) hs) (by omega) hgx) ?_
                                  rintro v16_6 w16_6 ⟨a2, rfl, ha2, hz⟩
                                  replace hs := hs.regain (L1 := RdL _ _ _ _ _) hz
                                  simp only [RdL, List.cons_append, List.nil_append] at hs
                                  refine Z.tk (Dn := fun _ => true) (i := 6) (fun _ => ⟨_, hs, by first | (simp; done) | exact fun e he => List.mem_append_right _ he⟩) ?_
                                  refine Z.tb [7, 8, 9] (by kernel_rfl) rfl ⟨_, hs, by first | (simp; done) | exact fun e he => List.mem_append_right _ he⟩ rfl ?_
                                  refine Z.tn 10 rfl rfl (by kernel_rfl) rfl trivial ?_
                                  refine Z.ZO.alloc rfl rfl (by rfl) Try.zeroValue65 rfl hs ?_
                                  clear hs; intro g10 w10 hs
                                  refine Z.tk (Dn := fun _ => true) (i := 10) (fun _ => ⟨_, hs, by first | (simp; done) | exact fun e he => List.mem_append_right _ he⟩) ?_
                                  refine Z.tn 11 rfl rfl (by kernel_rfl) rfl trivial ?_
                                  refine Z.ZO.storeA rfl rfl hs rfl rfl (by kernel_rfl) (by simp [Value.oneCell']) (by first | exact SX.at0 | exact SX.at1 | exact SX.at2 | exact SX.at3 | exact SX.at4 | exact SX.at5 | exact Z.at6 | exact Z.at7 | exact Z.at8 | exact Z.at9 | exact Z.at10 | exact Z.at11 | exact Z.at12) (by rfl) ?_
                                  clear hs; intro ws hs
                                  simp only [Nat.zero_add, Nat.add_zero, Nat.reduceAdd, List.set_cons_zero, List.set_cons_succ, List.setIfInBounds_toArray] at hs
                                  refine Z.tk (Dn := fun _ => true) (i := 11) (fun _ => ⟨_, hs, by first | (simp; done) | exact fun e he => List.mem_append_right _ he⟩) ?_
                                  refine Z.tb [12] (by kernel_rfl) rfl ⟨_, hs, by first | (simp; done) | exact fun e he => List.mem_append_right _ he⟩ rfl ?_
                                  refine Z.td (by rfl) (by kernel_rfl) ?_
                                  refine Z.only [1, 6, 7, 9, 10, 11] rfl ?_
                                  refine Z.nthen ?_
                                  refine Z.seq ?_
                                  refine Z.region ?_
                                  refine Z.l rfl rfl (by rfl) (Z.keepS hs) (by first | exact Z.Yd.loadA _ rfl Try.isAgg65 (fun _ => Z.cellsB (by first | ((repeat (first | exact List.mem_cons_self | refine List.mem_cons_of_mem _ ?_ | refine List.mem_append_right _ ?_)); done) | fail)) (by exact Try.sizeOf65) | fail "load 17.0") ?_
                                  refine Z.le rfl trivial ?_
                                  refine Z.ZO.storeA rfl rfl hs rfl rfl (by kernel_rfl) (by simp [Value.oneCell']) (by first | exact SX.at0 | exact SX.at1 | exact SX.at2 | exact SX.at3 | exact SX.at4 | exact SX.at5 | exact Z.at6 | exact Z.at7 | exact Z.at8 | exact Z.at9 | exact Z.at10 | exact Z.at11 | exact Z.at12) (by rfl) ?_
                                  clear hs; intro ws hs
                                  simp only [Nat.zero_add, Nat.add_zero, Nat.reduceAdd, List.set_cons_zero, List.set_cons_succ, List.setIfInBounds_toArray] at hs
                                  refine Z.lnil ?_
                                  refine Z.only [1, 6, 7, 9, 11] rfl ?_
                                  first
                                  | (replace hs : SX.St w [] _ (RdL gr 73 svr l a2 ++ [SX.Ent.blk g7 65 #[.slice Ab nb cb, .int .i64 (a2 : Int)], SX.Ent.row (.slice Ab nb cb) 5 1 nb (ints .u8 (bits (unb l)))]) := hs.sel [1, 2, 3, 4] (by decide))
                                  | (replace hs : SX.St w [] _ (RdL gr 73 svr l a2 ++ [SX.Ent.blk g7 65 #[.slice Ab nb cb, .int .i64 (a2 : Int)], SX.Ent.row (.slice Ab nb cb) 5 1 nb (ints .u8 (bits (unb l)))]) := hs.sel [0, 1, 2, 3] (by decide))
                                  refine Z.nthen ?_
                                  refine Z.seq ?_
                                  refine Z.drawL [SX.Ent.blk g7 65 #[.slice Ab nb cb, .int .i64 (a2 : Int)]] (fun _ => true) mixed hs ?_
                                  clear hs; intro wd18 hs
                                  refine Z.tb [0, 1, 2, 3] (by kernel_rfl) rfl ⟨_, hs, by first | (simp; done) | exact fun e he => List.mem_append_right _ he⟩ rfl ?_
                                  refine Z.t 5 rfl rfl rfl (by rfl) (by kernel_rfl) ⟨_, hs, by first | (simp; done) | exact fun e he => List.mem_append_right _ he⟩ (Z.Yd.fieldA (m := 1) rfl (by kernel_rfl)) ?_
                                  refine Z.t 6 rfl rfl rfl (by rfl) (by kernel_rfl) ⟨_, hs, by first | (simp; done) | exact fun e he => List.mem_append_right _ he⟩ (by first | exact Z.Yd.load rfl Try.isAgg3 (fun _ => Z.cellB (by first | ((repeat (first | exact List.mem_cons_self | refine List.mem_cons_of_mem _ ?_ | refine List.mem_append_right _ ?_)); done) | fail) rfl) | exact Z.Yd.load rfl Try.isAgg3 (fun _ => Z.cellO (by assumption) (by simp) (by assumption)) | fail "load 18.6") ?_
                                  refine Z.yes (s := 69) (b := false) rfl rfl rfl ?_
                                  refine Z.tn 4 rfl rfl (by kernel_rfl) rfl (by exact ⟨rfl, trivial⟩) ?_
                                  refine Z.ZO.call rfl rfl (by rfl) rfl rfl Try.call23 rfl (rat_any gr _ svr l a2 _ (hs.lend (L1 := RdL _ _ _ _ _))) ?_
                                  rintro v18_4 w18_4 ⟨rfl, hz⟩
                                  replace hs := hs.regain (L1 := RdL _ _ _ _ _) hz
                                  refine Z.tk (Dn := fun _ => true) (i := 4) (fun _ => ⟨_, hs, by first | (simp; done) | exact fun e he => List.mem_append_right _ he⟩) ?_
                                  refine Z.tb [7, 8, 9, 10] (by kernel_rfl) rfl ⟨_, hs, by first | (simp; done) | exact fun e he => List.mem_append_right _ he⟩ rfl ?_
                                  refine Z.t 12 rfl rfl rfl (by rfl) (by kernel_rfl) ⟨_, hs, by first | (simp; done) | exact fun e he => List.mem_append_right _ he⟩ (Z.Yd.fieldA (m := 0) rfl (by kernel_rfl)) ?_
                                  refine Z.t 13 rfl rfl rfl (by rfl) (by kernel_rfl) ⟨_, hs, by first | (simp; done) | exact fun e he => List.mem_append_right _ he⟩ (by first | exact Z.Yd.load rfl Try.isAgg25 (fun _ => Z.cellB (by first | ((repeat (first | exact List.mem_cons_self | refine List.mem_cons_of_mem _ ?_ | refine List.mem_append_right _ ?_)); done) | fail) rfl) | exact Z.Yd.load rfl Try.isAgg25 (fun _ => Z.cellO (by assumption) (by simp) (by assumption)) | fail "load 18.13") ?_
                                  refine Z.t 14 rfl rfl rfl (by rfl) (by kernel_rfl) ⟨_, hs, by first | (simp; done) | exact fun e he => List.mem_append_right _ he⟩ (Z.Yd.lenS rfl Try.underlying25) ?_
                                  refine Z.t 15 rfl rfl rfl (by rfl) (by kernel_rfl) ⟨_, hs, by first | (simp; done) | exact fun e he => List.mem_append_right _ he⟩ (Z.Yd.fieldA (m := 1) rfl (by kernel_rfl)) ?_
                                  refine Z.t 16 rfl rfl rfl (by rfl) (by kernel_rfl) ⟨_, hs, by first | (simp; done) | exact fun e he => List.mem_append_right _ he⟩ (by first | exact Z.Yd.load rfl Try.isAgg3 (fun _ => Z.cellB (by first | ((repeat (first | exact List.mem_cons_self | refine List.mem_cons_of_mem _ ?_ | refine List.mem_append_right _ ?_)); done) | fail) rfl) | exact Z.Yd.load rfl Try.isAgg3 (fun _ => Z.cellO (by assumption) (by simp) (by assumption)) | fail "load 18.16") ?_
                                  refine Z.t 17 rfl rfl rfl (by rfl) (by kernel_rfl) ⟨_, hs, by first | (simp; done) | exact fun e he => List.mem_append_right _ he⟩ (Z.Yd.sub rfl rfl (fun hG => Z.wi64 (by first | omega | (have hG' := Z.gh rfl hG; simp at hG'; omega)))) ?_
                                  refine Z.yes (s := 76) (b := false) rfl (by simp) rfl ?_
                                  refine Z.tn 11 rfl rfl (by kernel_rfl) rfl (by exact ⟨rfl, trivial⟩) ?_
                                  refine Z.ZO.call rfl rfl (by rfl) rfl rfl Try.call24 rfl (rleft_any gr _ svr l a2 _ (hs.lend (L1 := RdL _ _ _ _ _)) (by omega) ha2) ?_
                                  rintro v18_11 w18_11 ⟨rfl, hz⟩
                                  replace hs := hs.regain (L1 := RdL _ _ _ _ _) hz
                                  refine Z.tk (Dn := fun _ => true) (i := 11) (fun _ => ⟨_, hs, by first | (simp; done) | exact fun e he => List.mem_append_right _ he⟩) ?_
                                  refine Z.tb [18, 19, 20, 21] (by kernel_rfl) rfl ⟨_, hs, by first | (simp; done) | exact fun e he => List.mem_append_right _ he⟩ rfl ?_
                                  refine Z.t 24 rfl rfl rfl (by rfl) (by kernel_rfl) ⟨_, hs, by first | (simp; done) | exact fun e he => List.mem_append_right _ he⟩ (by first | exact Z.Yd.loadA _ rfl Try.isAgg65 (fun _ => Z.cellsB (by first | ((repeat (first | exact List.mem_cons_self | refine List.mem_cons_of_mem _ ?_ | refine List.mem_append_right _ ?_)); done) | fail)) (by exact Try.sizeOf65) | fail "load 18.24") ?_
                                  refine Z.yes (s := 87) (b := false) rfl (by simp; omega) rfl ?_
                                  refine Z.tn 22 rfl rfl (by kernel_rfl) rfl (by exact ⟨rfl, trivial⟩) ?_
                                  refine Z.ZO.call rfl rfl (by rfl) rfl rfl Try.call27 rfl (rend_any gr _ svr l a2 _ (hs.lend (L1 := RdL _ _ _ _ _)) (by omega) ha2 hb) ?_
                                  rintro v18_22 w18_22 ⟨rfl, hz⟩
                                  replace hs := hs.regain (L1 := RdL _ _ _ _ _) hz
                                  refine Z.tk (Dn := fun _ => true) (i := 22) (fun _ => ⟨_, hs, by first | (simp; done) | exact fun e he => List.mem_append_right _ he⟩) ?_
                                  refine Z.tn 23 rfl rfl (by kernel_rfl) rfl (by exact ⟨rfl, trivial⟩) ?_
                                  refine Z.ZO.call rfl rfl (by rfl) rfl rfl Try.call18 rfl (num_any _ _) ?_
                                  rintro v18_23 w18_23 ⟨rfl, hy1⟩
                                  replace hs := hs.call hy1
                                  refine Z.tk (Dn := fun _ => true) (i := 23) (fun _ => ⟨_, hs, by first | (simp; done) | exact fun e he => List.mem_append_right _ he⟩) ?_
                                  refine Z.tn 25 rfl rfl (by kernel_rfl) rfl (by exact ⟨rfl, trivial⟩) ?_
                                  refine Z.ZO.call rfl rfl (by rfl) rfl rfl Try.call31 rfl (refend Ab nb cb l a2 _ (SX.row_slB hs (j := 3) rfl) hnb hcb (by omega) ha2) ?_
                                  rintro v18_25 w18_25 ⟨rfl, hy1⟩
                                  replace hs := hs.call hy1
                                  refine Z.tk (Dn := fun _ => true) (i := 25) (fun _ => ⟨_, hs, by first | (simp; done) | exact fun e he => List.mem_append_right _ he⟩) ?_
                                  refine Z.tb [26, 27] (by kernel_rfl) rfl ⟨_, hs, by first | (simp; done) | exact fun e he => List.mem_append_right _ he⟩ rfl ?_
                                  refine Z.td (by rfl) (by kernel_rfl) ?_
                                  refine Z.only [1, 6, 7, 9, 94] rfl ?_
                                  refine Z.nthen ?_
                                  refine Z.cond rfl (fun h => absurd h (by simp)) (fun hc18 => ?_)
                                  refine Z.skip ?_
                                  refine Z.nblock ?_
                                  refine Z.nthen ?_
                                  refine Z.region ?_
                                  refine Z.lb 1 rfl ?_
                                  refine Z.l rfl rfl (by rfl) (Z.keepS hs) (Z.Yd.add rfl rfl (fun hG => Z.wi64 (by first | omega | (have hG' := Z.gh rfl hG; simp at hG'; omega)))) ?_
                                  refine Z.lb 1 rfl ?_
                                  refine Z.lnil ?_
                                  refine Z.only [1, 6, 7, 9] rfl ?_
                                  refine Z.nthen ?_
                                  exact Z.again (k2 + 1, a2) (by refine ⟨?_, ?_, ?_, ?_, trivial⟩ <;> (first | rfl | (refine Z.lookv rfl ?_; simp; done) | (refine Z.lookv rfl ?_; simp; omega))) ⟨by simp only; omega, ha2, hs⟩ (by simp only; omega)
                                · skip
                                  refine Z.ZO.alloc rfl rfl (by rfl) Try.zeroValue65 rfl hs ?_
                                  clear hs; intro g10 w10 hs
                                  refine Z.tk (Dn := fun _ => true) (i := 10) (fun _ => ⟨_, hs, by first | (simp; done) | exact fun e he => List.mem_append_right _ he⟩) ?_
                                  first
                                  | (replace hs : SX.St w [] _ (RdL gr 73 svr l a ++ [SX.Ent.blk g7 65 #[.slice Ab nb cb, .int .i64 (a : Int)], SX.Ent.row (.slice Ab nb cb) 5 1 nb (ints .u8 (bits (unb l))), SX.Ent.blk g10 65 #[.slice none 0 0, .int .i64 0]]) := hs.sel [1, 2, 3, 4, 0] (by decide))
                                  | skip
                                  refine Z.tn 6 rfl rfl (by kernel_rfl) rfl trivial ?_
                                  refine Z.ZO.call rfl rfl (by rfl) rfl rfl Try.call30 rfl (ask_any gr _ svr l a Ab nb cb x _ (hs.lend (L1 := RdL _ _ _ _ _)) (Z.row_lentv (L1 := RdL _ _ _ _ _) hs (j := 1) rfl) hnb hcb (by omega) ha hb (hgx.ls.sx.lent (L1 := RdL _ _ _ _ _) hs) (by omega) hgx) ?_
                                  rintro v16_6 w16_6 ⟨a2, rfl, ha2, hz⟩
                                  replace hs := hs.regain (L1 := RdL _ _ _ _ _) hz
                                  simp only [RdL, List.cons_append, List.nil_append] at hs
                                  refine Z.tk (Dn := fun _ => true) (i := 6) (fun _ => ⟨_, hs, by first | (simp; done) | exact fun e he => List.mem_append_right _ he⟩) ?_
                                  refine Z.tb [7, 8, 9] (by kernel_rfl) rfl ⟨_, hs, by first | (simp; done) | exact fun e he => List.mem_append_right _ he⟩ rfl ?_
                                  refine Z.tn 11 rfl rfl (by kernel_rfl) rfl trivial ?_
                                  refine Z.ZO.storeA rfl rfl hs rfl rfl (by kernel_rfl) (by simp [Value.oneCell']) (by first | exact SX.at0 | exact SX.at1 | exact SX.at2 | exact SX.at3 | exact SX.at4 | exact SX.at5 | exact Z.at6 | exact Z.at7 | exact Z.at8 | exact Z.at9 | exact Z.at10 | exact Z.at11 | exact Z.at12) (by rfl) ?_
                                  clear hs; intro ws hs
                                  simp only [Nat.zero_add, Nat.add_zero, Nat.reduceAdd, List.set_cons_zero, List.set_cons_succ, List.setIfInBounds_toArray] at hs
                                  refine Z.tk (Dn := fun _ => true) (i := 11) (fun _ => ⟨_, hs, by first | (simp; done) | exact fun e he => List.mem_append_right _ he⟩) ?_
                                  refine Z.tb [12] (by kernel_rfl) rfl ⟨_, hs, by first | (simp; done) | exact fun e he => List.mem_append_right _ he⟩ rfl ?_
                                  refine Z.td (by rfl) (by kernel_rfl) ?_
                                  refine Z.only [1, 6, 7, 9, 10, 11] rfl ?_
                                  refine Z.nthen ?_
                                  refine Z.seq ?_
                                  refine Z.region ?_
                                  refine Z.l rfl rfl (by rfl) (Z.keepS hs) (by first | exact Z.Yd.loadA _ rfl Try.isAgg65 (fun _ => Z.cellsB (by first | ((repeat (first | exact List.mem_cons_self | refine List.mem_cons_of_mem _ ?_ | refine List.mem_append_right _ ?_)); done) | fail)) (by exact Try.sizeOf65) | fail "load 17.0") ?_
                                  refine Z.le rfl trivial ?_
                                  refine Z.ZO.storeA rfl rfl hs rfl rfl (by kernel_rfl) (by simp [Value.oneCell']) (by first | exact SX.at0 | exact SX.at1 | exact SX.at2 | exact SX.at3 | exact SX.at4 | exact SX.at5 | exact Z.at6 | exact Z.at7 | exact Z.at8 | exact Z.at9 | exact Z.at10 | exact Z.at11 | exact Z.at12) (by rfl) ?_
                                  clear hs; intro ws hs
                                  simp only [Nat.zero_add, Nat.add_zero, Nat.reduceAdd, List.set_cons_zero, List.set_cons_succ, List.setIfInBounds_toArray] at hs
                                  refine Z.lnil ?_
                                  refine Z.only [1, 6, 7, 9, 11] rfl ?_
                                  first
                                  | (replace hs : SX.St w [] _ (RdL gr 73 svr l a2 ++ [SX.Ent.blk g7 65 #[.slice Ab nb cb, .int .i64 (a2 : Int)], SX.Ent.row (.slice Ab nb cb) 5 1 nb (ints .u8 (bits (unb l)))]) := hs.sel [1, 2, 3, 4] (by decide))
                                  | (replace hs : SX.St w [] _ (RdL gr 73 svr l a2 ++ [SX.Ent.blk g7 65 #[.slice Ab nb cb, .int .i64 (a2 : Int)], SX.Ent.row (.slice Ab nb cb) 5 1 nb (ints .u8 (bits (unb l)))]) := hs.sel [0, 1, 2, 3] (by decide))
                                  refine Z.nthen ?_
                                  refine Z.seq ?_
                                  refine Z.drawL [SX.Ent.blk g7 65 #[.slice Ab nb cb, .int .i64 (a2 : Int)]] (fun _ => true) mixed hs ?_
                                  clear hs; intro wd18 hs
                                  refine Z.tb [0, 1, 2, 3] (by kernel_rfl) rfl ⟨_, hs, by first | (simp; done) | exact fun e he => List.mem_append_right _ he⟩ rfl ?_
                                  refine Z.t 5 rfl rfl rfl (by rfl) (by kernel_rfl) ⟨_, hs, by first | (simp; done) | exact fun e he => List.mem_append_right _ he⟩ (Z.Yd.fieldA (m := 1) rfl (by kernel_rfl)) ?_
                                  refine Z.t 6 rfl rfl rfl (by rfl) (by kernel_rfl) ⟨_, hs, by first | (simp; done) | exact fun e he => List.mem_append_right _ he⟩ (by first | exact Z.Yd.load rfl Try.isAgg3 (fun _ => Z.cellB (by first | ((repeat (first | exact List.mem_cons_self | refine List.mem_cons_of_mem _ ?_ | refine List.mem_append_right _ ?_)); done) | fail) rfl) | exact Z.Yd.load rfl Try.isAgg3 (fun _ => Z.cellO (by assumption) (by simp) (by assumption)) | fail "load 18.6") ?_
                                  refine Z.yes (s := 69) (b := false) rfl rfl rfl ?_
                                  refine Z.tn 4 rfl rfl (by kernel_rfl) rfl (by exact ⟨rfl, trivial⟩) ?_
                                  refine Z.ZO.call rfl rfl (by rfl) rfl rfl Try.call23 rfl (rat_any gr _ svr l a2 _ (hs.lend (L1 := RdL _ _ _ _ _))) ?_
                                  rintro v18_4 w18_4 ⟨rfl, hz⟩
                                  replace hs := hs.regain (L1 := RdL _ _ _ _ _) hz
                                  refine Z.tk (Dn := fun _ => true) (i := 4) (fun _ => ⟨_, hs, by first | (simp; done) | exact fun e he => List.mem_append_right _ he⟩) ?_
                                  refine Z.tb [7, 8, 9, 10] (by kernel_rfl) rfl ⟨_, hs, by first | (simp; done) | exact fun e he => List.mem_append_right _ he⟩ rfl ?_
                                  refine Z.t 12 rfl rfl rfl (by rfl) (by kernel_rfl) ⟨_, hs, by first | (simp; done) | exact fun e he => List.mem_append_right _ he⟩ (Z.Yd.fieldA (m := 0) rfl (by kernel_rfl)) ?_
                                  refine Z.t 13 rfl rfl rfl (by rfl) (by kernel_rfl) ⟨_, hs, by first | (simp; done) | exact fun e he => List.mem_append_right _ he⟩ (by first | exact Z.Yd.load rfl Try.isAgg25 (fun _ => Z.cellB (by first | ((repeat (first | exact List.mem_cons_self | refine List.mem_cons_of_mem _ ?_ | refine List.mem_append_right _ ?_)); done) | fail) rfl) | exact Z.Yd.load rfl Try.isAgg25 (fun _ => Z.cellO (by assumption) (by simp) (by assumption)) | fail "load 18.13") ?_
                                  refine Z.t 14 rfl rfl rfl (by rfl) (by kernel_rfl) ⟨_, hs, by first | (simp; done) | exact fun e he => List.mem_append_right _ he⟩ (Z.Yd.lenS rfl Try.underlying25) ?_
                                  refine Z.t 15 rfl rfl rfl (by rfl) (by kernel_rfl) ⟨_, hs, by first | (simp; done) | exact fun e he => List.mem_append_right _ he⟩ (Z.Yd.fieldA (m := 1) rfl (by kernel_rfl)) ?_
                                  refine Z.t 16 rfl rfl rfl (by rfl) (by kernel_rfl) ⟨_, hs, by first | (simp; done) | exact fun e he => List.mem_append_right _ he⟩ (by first | exact Z.Yd.load rfl Try.isAgg3 (fun _ => Z.cellB (by first | ((repeat (first | exact List.mem_cons_self | refine List.mem_cons_of_mem _ ?_ | refine List.mem_append_right _ ?_)); done) | fail) rfl) | exact Z.Yd.load rfl Try.isAgg3 (fun _ => Z.cellO (by assumption) (by simp) (by assumption)) | fail "load 18.16") ?_
                                  refine Z.t 17 rfl rfl rfl (by rfl) (by kernel_rfl) ⟨_, hs, by first | (simp; done) | exact fun e he => List.mem_append_right _ he⟩ (Z.Yd.sub rfl rfl (fun hG => Z.wi64 (by first | omega | (have hG' := Z.gh rfl hG; simp at hG'; omega)))) ?_
                                  refine Z.yes (s := 76) (b := false) rfl (by simp) rfl ?_
                                  refine Z.tn 11 rfl rfl (by kernel_rfl) rfl (by exact ⟨rfl, trivial⟩) ?_
                                  refine Z.ZO.call rfl rfl (by rfl) rfl rfl Try.call24 rfl (rleft_any gr _ svr l a2 _ (hs.lend (L1 := RdL _ _ _ _ _)) (by omega) ha2) ?_
                                  rintro v18_11 w18_11 ⟨rfl, hz⟩
                                  replace hs := hs.regain (L1 := RdL _ _ _ _ _) hz
                                  refine Z.tk (Dn := fun _ => true) (i := 11) (fun _ => ⟨_, hs, by first | (simp; done) | exact fun e he => List.mem_append_right _ he⟩) ?_
                                  refine Z.tb [18, 19, 20, 21] (by kernel_rfl) rfl ⟨_, hs, by first | (simp; done) | exact fun e he => List.mem_append_right _ he⟩ rfl ?_
                                  refine Z.t 24 rfl rfl rfl (by rfl) (by kernel_rfl) ⟨_, hs, by first | (simp; done) | exact fun e he => List.mem_append_right _ he⟩ (by first | exact Z.Yd.loadA _ rfl Try.isAgg65 (fun _ => Z.cellsB (by first | ((repeat (first | exact List.mem_cons_self | refine List.mem_cons_of_mem _ ?_ | refine List.mem_append_right _ ?_)); done) | fail)) (by exact Try.sizeOf65) | fail "load 18.24") ?_
                                  refine Z.yes (s := 87) (b := false) rfl (by simp; omega) rfl ?_
                                  refine Z.tn 22 rfl rfl (by kernel_rfl) rfl (by exact ⟨rfl, trivial⟩) ?_
                                  refine Z.ZO.call rfl rfl (by rfl) rfl rfl Try.call27 rfl (rend_any gr _ svr l a2 _ (hs.lend (L1 := RdL _ _ _ _ _)) (by omega) ha2 hb) ?_
                                  rintro v18_22 w18_22 ⟨rfl, hz⟩
                                  replace hs := hs.regain (L1 := RdL _ _ _ _ _) hz
                                  refine Z.tk (Dn := fun _ => true) (i := 22) (fun _ => ⟨_, hs, by first | (simp; done) | exact fun e he => List.mem_append_right _ he⟩) ?_
                                  refine Z.tn 23 rfl rfl (by kernel_rfl) rfl (by exact ⟨rfl, trivial⟩) ?_
                                  refine Z.ZO.call rfl rfl (by rfl) rfl rfl Try.call18 rfl (num_any _ _) ?_
                                  rintro v18_23 w18_23 ⟨rfl, hy1⟩
                                  replace hs := hs.call hy1
                                  refine Z.tk (Dn := fun _ => true) (i := 23) (fun _ => ⟨_, hs, by first | (simp; done) | exact fun e he => List.mem_append_right _ he⟩) ?_
                                  refine Z.tn 25 rfl rfl (by kernel_rfl) rfl (by exact ⟨rfl, trivial⟩) ?_
                                  refine Z.ZO.call rfl rfl (by rfl) rfl rfl Try.call31 rfl (refend Ab nb cb l a2 _ (SX.row_slB hs (j := 3) rfl) hnb hcb (by omega) ha2) ?_
                                  rintro v18_25 w18_25 ⟨rfl, hy1⟩
                                  replace hs := hs.call hy1
                                  refine Z.tk (Dn := fun _ => true) (i := 25) (fun _ => ⟨_, hs, by first | (simp; done) | exact fun e he => List.mem_append_right _ he⟩) ?_
                                  refine Z.tb [26, 27] (by kernel_rfl) rfl ⟨_, hs, by first | (simp; done) | exact fun e he => List.mem_append_right _ he⟩ rfl ?_
                                  refine Z.td (by rfl) (by kernel_rfl) ?_
                                  refine Z.only [1, 6, 7, 9, 94] rfl ?_
                                  refine Z.nthen ?_
                                  refine Z.cond rfl (fun h => absurd h (by simp)) (fun hc18 => ?_)
                                  refine Z.skip ?_
                                  refine Z.nblock ?_
                                  refine Z.nthen ?_
                                  refine Z.region ?_
                                  refine Z.lb 1 rfl ?_
                                  refine Z.l rfl rfl (by rfl) (Z.keepS hs) (Z.Yd.add rfl rfl (fun hG => Z.wi64 (by first | omega | (have hG' := Z.gh rfl hG; simp at hG'; omega)))) ?_
                                  refine Z.lb 1 rfl ?_
                                  refine Z.lnil ?_
                                  refine Z.only [1, 6, 7, 9] rfl ?_
                                  refine Z.nthen ?_
                                  exact Z.again (k2 + 1, a2) (by refine ⟨?_, ?_, ?_, ?_, trivial⟩ <;> (first | rfl | (refine Z.lookv rfl ?_; simp; done) | (refine Z.lookv rfl ?_; simp; omega))) ⟨by simp only; omega, ha2, hs⟩ (by simp only; omega)
                                )
                          )
                    · first
                        | (exfalso; simp at hc12 <;> omega)
                        | (
                          (try simp at hc12)
                          refine Z.exit ?_
                          refine Z.xthen ?_
                          refine Z.xthen ?_
                          refine Z.xblock ?_
                          refine Z.nthen ?_
                          refine Z.seq ?_
                          refine Z.region ?_
                          refine Z.le rfl trivial ?_
                          refine Z.ZO.call rfl rfl (by rfl) rfl rfl Try.call10 rfl (works_any _) ?_
                          rintro v20_0 w20_0 ⟨rfl, hy1⟩
                          replace hs := hs.call hy1
                          refine Z.lb 1 rfl ?_
                          refine Z.lnil ?_
                          refine Z.only [4] rfl ?_
                          refine Z.nthen ?_
                          refine Z.ret ?_
                          -- ret#2
                          refine Z.out1 (by exact ⟨rfl, trivial⟩) ?_
                          first | exact ⟨_, rfl, rfl, hs⟩ | exact ⟨_, rfl, rfl, hs.sub (List.nil_sublist _)⟩
                          )
                    )
              )
        )
  · first
      | (exfalso; simp at hsp15 <;> omega)
      | (
        refine Z.yes (s := 15) (b := false) rfl hsp15 rfl ?_
        (try simp at hsp15)
        refine Z.lb 1 rfl ?_
        refine Z.l rfl rfl (by rfl) (Z.keepS hs) (Z.Yd.lenS rfl Try.underlying63) ?_
        refine Z.lb 1 rfl ?_
        refine Z.yes (s := 15) (b := false) rfl rfl rfl ?_
        refine Z.l rfl rfl (by rfl) (Z.keepS hs) (Z.Yd.pickF rfl rfl) ?_
        refine Z.lnil ?_
        refine Z.only [0, 1, 19] rfl ?_
        refine Z.nthen ?_
        refine Z.cond rfl (fun hc1 => ?_) (fun hc1 => ?_)
        · first
            | (exfalso; simp at hc1 <;> omega)
            | (
              (try simp at hc1)
              refine Z.seq ?_
              refine Z.region ?_
              refine Z.le rfl trivial ?_
              refine Z.ZO.call rfl rfl (by rfl) rfl rfl Try.call10 rfl (works_any _) ?_
              rintro v2_0 w2_0 ⟨rfl, hy1⟩
              replace hs := hs.call hy1
              refine Z.lb 1 rfl ?_
              refine Z.lnil ?_
              refine Z.only [4] rfl ?_
              refine Z.nthen ?_
              refine Z.ret ?_
              repeat (first | refine Z.rthen ?_ | refine Z.rblock ?_ | refine Z.rscope ?_)
              -- ret#3
              refine Z.out1 (by exact ⟨rfl, trivial⟩) ?_
              first | exact ⟨_, rfl, rfl, hs⟩ | exact ⟨_, rfl, rfl, hs.sub (List.nil_sublist _)⟩
              )
        · first
            | (exfalso; simp at hc1 <;> omega)
            | (
              (try simp at hc1)
              refine Z.skip ?_
              refine Z.nthen ?_
              refine Z.seq ?_
              refine Z.region ?_
              refine Z.le rfl trivial ?_
              refine Z.ZO.empty rfl rfl (by rfl) Try.underlying25 Try.sizeOf5 hs ?_
              clear hs; intro g21 w21 hs
              refine Z.lb 1 rfl ?_
              refine Z.le rfl trivial ?_
              refine Z.ZO.appendG (i0 := Try.t5) (size := 1) (bytes := 1) rfl rfl (by rfl) hs Try.underlying25 (by kernel_rfl) rfl rfl rfl rfl (by decide) rfl rfl (by first | exact SX.at0 | exact SX.at1 | exact SX.at2 | exact SX.at3 | exact SX.at4 | exact SX.at5 | exact Z.at6 | exact Z.at7 | exact Z.at8 | exact Z.at9 | exact Z.at10 | exact Z.at11 | exact Z.at12) (hx.st hs) (by first | rfl | (simp [ints_length]; done) | (simp [ints_length]; omega)) (by first | exact Z.ints_one | simp [Value.oneCell']) (by unfold maxLen; omega) (by omega) ?_
              clear hs; intro v23 w23 hs
              simp only [List.set_cons_zero, List.set_cons_succ] at hs
              rw [List.nil_append, Nat.zero_add] at hs
              obtain ⟨Ao, co, rfl, -, -, -⟩ := SX.row_slv hs (j := 0) rfl
              refine Z.lb 1 rfl ?_
              refine Z.lnil ?_
              refine Z.only [0, 1, 5] rfl ?_
              refine Z.nthen ?_
              refine Z.seq ?_
              refine Z.region ?_
              refine Z.lb 1 rfl ?_
              refine Z.le rfl trivial ?_
              refine Z.ZO.call rfl rfl (by rfl) rfl rfl Try.call21 rfl (newreader_any Ao _ co l _ (Z.row_lentv (L1 := []) hs (j := 0) rfl) rfl (by omega) (SX.row_none hs (j := 0) rfl)) ?_
              rintro v4_1 w4_1 ⟨gr, svr, rfl, hy1⟩
              replace hs := hs.call hy1
              refine Z.lb 1 rfl ?_
              refine Z.le rfl trivial ?_
              refine Z.ZO.call rfl rfl (by rfl) rfl rfl Try.call29 rfl (refnew A _ c l _ (hx.st hs) rfl (by omega) hb) ?_
              rintro v4_3 w4_3 ⟨Ab, nb, cb, rfl, hnb, hy1⟩
              replace hs := hs.call hy1
              refine Z.le rfl trivial ?_
              refine Z.ZO.alloc rfl rfl (by rfl) Try.zeroValue65 rfl hs ?_
              clear hs; intro g7 w7 hs
              refine Z.lb 1 rfl ?_
              refine Z.le rfl trivial ?_
              refine Z.ZO.storeA rfl rfl hs rfl rfl (by kernel_rfl) (by simp [Value.oneCell']) (by first | exact SX.at0 | exact SX.at1 | exact SX.at2 | exact SX.at3 | exact SX.at4 | exact SX.at5 | exact Z.at6 | exact Z.at7 | exact Z.at8 | exact Z.at9 | exact Z.at10 | exact Z.at11 | exact Z.at12) (by rfl) ?_
              clear hs; intro ws hs
              simp only [Nat.zero_add, Nat.add_zero, Nat.reduceAdd, List.set_cons_zero, List.set_cons_succ, List.setIfInBounds_toArray] at hs
              refine Z.lnil ?_
              refine Z.only [1, 5, 6, 7] rfl ?_
              obtain ⟨_, _, e0, hcb, hcb2, -⟩ := SX.row_slv hs (j := 1) rfl
              simp only [Value.slice.injEq] at e0
              obtain ⟨-, -, rfl⟩ := e0
              obtain ⟨Lr, hLr⟩ : ∃ Lr, Lr = SX.Ent.row (.slice Ab nb cb) 5 1 nb (ints .u8 (bits (unb l))) := ⟨_, rfl⟩
              replace hs : SX.St w [] _ (RdL gr 73 svr l 0 ++ [SX.Ent.blk g7 65 #[.slice Ab nb cb, .int .i64 0], SX.Ent.row (.slice Ab nb cb) 5 1 nb (ints .u8 (bits (unb l))), SX.Ent.row (.slice Ao l.length co) 5 1 l.length (ints .u8 l)]) := hs.sel [2, 3, 0, 1, 4] (by decide)
              refine Z.nthen ?_
              refine Z.seq ?_
              refine Z.seq ?_
              refine Z.region ?_
              refine Z.lb 1 rfl ?_
              refine Z.l rfl rfl (by rfl) (Z.keepS hs) (Z.Yd.ptrNil rfl rfl Try.underlying51) ?_
              refine Z.lnil ?_
              refine Z.only [1, 5, 6, 7, 29] rfl ?_
              refine Z.nthen ?_
              refine Z.cond rfl (fun h => absurd h (by simp)) (fun hc5 => ?_)
              refine Z.skip ?_
              refine Z.nthen ?_
              refine Z.seq ?_
              refine Z.seq ?_
              refine Z.region ?_
              refine Z.lb 1 rfl ?_
              refine Z.lnil ?_
              refine Z.only [1, 5, 6, 7, 8] rfl ?_
              refine Z.nthen ?_
              refine Z.block ?_
              refine Z.loopk (ι := Nat × List Int) [1, 5, 6, 7] rfl (fun k => [(8, [], .int .i64 (k.1 : Int))]) (fun k wr => k.1 ≤ l.length ∧ k.2.length = l.length ∧ SX.St w [] wr (RdL gr 73 svr l 0 ++ [SX.Ent.blk g7 65 #[.slice Ab nb cb, .int .i64 0], SX.Ent.row (.slice Ab nb cb) 5 1 nb (ints .u8 (bits (unb l))), SX.Ent.row (.slice Ao l.length co) 5 1 l.length (ints .u8 k.2)])) (fun k => l.length - k.1) (0, l) (by refine ⟨?_, trivial⟩ <;> (first | rfl | (refine Z.lookv rfl ?_; simp; done) | (refine Z.lookv rfl ?_; simp; omega))) ⟨by omega, rfl, hs⟩ ?_
              clear hs
              rintro ⟨k, l1⟩ w2 ⟨hkm, hbm, hs⟩
              refine Z.only [1, 5, 6, 7, 8] rfl ?_
              dsimp only at hs
              dsimp only at hkm hbm
              simp only [RdL, List.cons_append, List.nil_append] at hs
              refine Z.seq ?_
              refine Z.seq ?_
              refine Z.region ?_
              refine Z.lb 2 rfl ?_
              refine Z.l rfl rfl (by rfl) (Z.keepS hs) (Z.Yd.lenS rfl Try.underlying25) ?_
              refine Z.lb 1 rfl ?_
              refine Z.lnil ?_
              refine Z.only [1, 5, 6, 7, 8, 33] rfl ?_
              refine Z.nthen ?_
              refine Z.cond rfl (fun hc8 => ?_) (fun hc8 => ?_)
              · first
                  | (exfalso; simp at hc8 <;> omega)
                  | (
                    (try simp at hc8)
                    obtain ⟨go, co', e, -, -⟩ := row_form (j := 4) hs rfl (by omega)
                    simp only [Value.slice.injEq, true_and] at e
                    obtain ⟨rfl, rfl⟩ := e
                    refine Z.skip ?_
                    refine Z.nthen ?_
                    refine Z.seq ?_
                    refine Z.block ?_
                    refine Z.region ?_
                    refine Z.lb 2 rfl ?_
                    refine Z.l rfl rfl (by rfl) (Z.keepS hs) (Z.Yd.elem rfl rfl Try.underlying25 Try.sizeOf5 (fun hG => ⟨(by first | omega | (have hG' := Z.gh rfl hG; simp at hG'; omega)), (by first | omega | (have hG' := Z.gh rfl hG; simp at hG'; omega))⟩)) ?_
                    refine Z.l rfl rfl (by rfl) (Z.keepS hs) (by first | exact Z.Yd.load rfl Try.isAgg5 (fun hG => Z.cellR (by first | ((repeat (first | exact List.mem_cons_self | refine List.mem_cons_of_mem _ ?_ | refine List.mem_append_right _ ?_)); done) | fail) (Z.ints_at (by first | omega | (have hG' := Z.gh rfl hG; simp at hG'; omega)) (by first | omega | (have hG' := Z.gh rfl hG; simp at hG'; omega)))) | exact Z.Yd.load rfl Try.isAgg5 (fun hG => Z.cellXi (by assumption) (by first | omega | (have hG' := Z.gh rfl hG; simp at hG'; omega)) (by first | omega | (have hG' := Z.gh rfl hG; simp at hG'; omega))) | exact Z.Yd.load rfl Try.isAgg5 (fun hG => Z.cellS (by assumption) rfl (by first | omega | (have hG' := Z.gh rfl hG; simp at hG'; omega)) (by first | omega | (have hG' := Z.gh rfl hG; simp at hG'; omega))) | fail "load 10.3") ?_
                    refine Z.l rfl rfl (by rfl) (Z.keepS hs) (Z.Yd.add rfl rfl (fun _ => rfl)) ?_
                    refine Z.l rfl rfl (by rfl) (Z.keepS hs) (Z.Yd.elem rfl rfl Try.underlying25 Try.sizeOf5 (fun hG => ⟨(by first | omega | (have hG' := Z.gh rfl hG; simp at hG'; omega)), (by first | omega | (have hG' := Z.gh rfl hG; simp at hG'; omega))⟩)) ?_
                    refine Z.le rfl trivial ?_
                    first | refine Z.ZO.store rfl rfl hs Try.sizeOf5 rfl rfl rfl (by first | exact SX.at0 | exact SX.at1 | exact SX.at2 | exact SX.at3 | exact SX.at4 | exact SX.at5 | exact Z.at6 | exact Z.at7 | exact Z.at8 | exact Z.at9 | exact Z.at10 | exact Z.at11 | exact Z.at12) (by simp) ?_ | refine Z.ZO.storeR rfl rfl hs Try.sizeOf5 rfl rfl rfl (by first | exact SX.at0 | exact SX.at1 | exact SX.at2 | exact SX.at3 | exact SX.at4 | exact SX.at5 | exact Z.at6 | exact Z.at7 | exact Z.at8 | exact Z.at9 | exact Z.at10 | exact Z.at11 | exact Z.at12) (by first | omega | (simp [ints_length]; done) | (simp [ints_length]; omega)) ?_
                    clear hs; intro ws hs
                    simp only [Nat.zero_add, Nat.add_zero, Nat.reduceAdd, List.set_cons_zero, List.set_cons_succ, List.setIfInBounds_toArray] at hs
                    refine Z.lnil ?_
                    refine Z.only [1, 5, 6, 7, 8] rfl ?_
                    refine Z.nblock ?_
                    refine Z.nthen ?_
                    refine Z.region ?_
                    refine Z.lb 1 rfl ?_
                    refine Z.l rfl rfl (by rfl) (Z.keepS hs) (Z.Yd.add rfl rfl (fun hG => Z.wi64 (by first | omega | (have hG' := Z.gh rfl hG; simp at hG'; omega)))) ?_
                    refine Z.lb 1 rfl ?_
                    refine Z.lnil ?_
                    refine Z.only [1, 5, 6, 7, 8] rfl ?_
                    refine Z.nthen ?_
                    rw [ints_set] at hs
                    exact Z.again (k + 1, _) (by refine ⟨?_, ?_, ?_, ?_, ?_, trivial⟩ <;> (first | rfl | (refine Z.lookv rfl ?_; simp; done) | (refine Z.lookv rfl ?_; simp; omega))) ⟨by simp only; omega, by simpa using hbm, hs⟩ (by simp only; omega)
                    )
              · first
                  | (exfalso; simp at hc8 <;> omega)
                  | (
                    (try simp at hc8)
                    refine Z.exit ?_
                    refine Z.xthen ?_
                    refine Z.xthen ?_
                    refine Z.xblock ?_
                    refine Z.nthen ?_
                    refine Z.seq ?_
                    refine Z.seq ?_
                    refine Z.region ?_
                    refine Z.lb 1 rfl ?_
                    refine Z.lnil ?_
                    refine Z.only [1, 6, 7, 9] rfl ?_
                    refine Z.nthen ?_
                    refine Z.block ?_
                    refine Z.loopk (ι := Nat × Nat) [1, 6, 7] rfl (fun k => [(9, [], .int .i64 (k.1 : Int))]) (fun k wr => k.1 ≤ m ∧ k.2 ≤ 8 * l.length ∧ SX.St w [] wr (RdL gr 73 svr l k.2 ++ [SX.Ent.blk g7 65 #[.slice Ab nb cb, .int .i64 (k.2 : Int)], SX.Ent.row (.slice Ab nb cb) 5 1 nb (ints .u8 (bits (unb l)))])) (fun k => m - k.1) (0, 0) (by refine ⟨?_, trivial⟩ <;> (first | rfl | (refine Z.lookv rfl ?_; simp; done) | (refine Z.lookv rfl ?_; simp; omega))) ⟨by omega, by omega, hs.sel [0, 1, 2, 3] (by decide)⟩ ?_
                    clear hs
                    rintro ⟨k2, a⟩ w3 ⟨hk2, ha, hs⟩
                    refine Z.only [1, 6, 7, 9] rfl ?_
                    dsimp only at hs
                    dsimp only at hk2 ha
                    simp only [RdL, List.cons_append, List.nil_append] at hs
                    refine Z.seq ?_
                    refine Z.seq ?_
                    refine Z.region ?_
                    refine Z.lb 2 rfl ?_
                    refine Z.l rfl rfl (by rfl) (Z.keepS hs) (Z.Yd.lenS rfl Try.underlying63) ?_
                    refine Z.lb 1 rfl ?_
                    refine Z.lnil ?_
                    refine Z.only [1, 6, 7, 9, 45] rfl ?_
                    refine Z.nthen ?_
                    refine Z.cond rfl (fun hc12 => ?_) (fun hc12 => ?_)
                    · first
                        | (exfalso; simp at hc12 <;> omega)
                        | (
                          (try simp at hc12)
                          obtain ⟨b, off, rfl, hy⟩ := hy.some (by omega)
                          obtain ⟨x, hf⟩ : ∃ x, ks[k2]? = some x := ⟨_, List.getElem?_eq_getElem (by omega)⟩
                          have hgx := hg _ (List.mem_of_getElem? hf)
                          have h63 := hgx.l63
                          refine Z.skip ?_
                          refine Z.nthen ?_
                          refine Z.seq ?_
                          refine Z.block ?_
                          refine Z.seq ?_
                          refine Z.seq ?_
                          refine Z.region ?_
                          refine Z.lb 2 rfl ?_
                          refine Z.l rfl rfl (by rfl) (Z.keepS hs) (Z.Yd.elem rfl rfl Try.underlying63 Try.sizeOf68 (fun hG => ⟨(by first | omega | (have hG' := Z.gh rfl hG; simp at hG'; omega)), (by first | omega | (have hG' := Z.gh rfl hG; simp at hG'; omega))⟩)) ?_
                          refine Z.l rfl rfl (by rfl) (Z.keepS hs) (Z.Yd.fieldA (m := 2) rfl (by kernel_rfl)) ?_
                          refine Z.l rfl rfl (by rfl) (Z.keepS hs) (Z.Yd.load rfl Try.isAgg48 (fun _ => Z.cellXq (j := 2) hy encK_length hf rfl)) ?_
                          refine Z.l rfl rfl (by rfl) (Z.keepS hs) (Z.Yd.lenS rfl Try.underlying48) ?_
                          refine Z.lb 1 rfl ?_
                          refine Z.lnil ?_
                          refine Z.only [1, 6, 7, 9, 54] rfl ?_
                          refine Z.nthen ?_
                          refine Z.cond rfl (fun hc14 => ?_) (fun hc14 => ?_)
                          · first
                              | (exfalso; simp at hc14 <;> omega)
                              | (
                                (try simp at hc14)
                                refine Z.seq ?_
                                refine Z.region ?_
                                refine Z.le rfl trivial ?_
                                refine Z.ZO.call rfl rfl (by rfl) rfl rfl Try.call10 rfl (works_any _) ?_
                                rintro v15_0 w15_0 ⟨rfl, hy1⟩
                                replace hs := hs.call hy1
                                refine Z.lb 1 rfl ?_
                                refine Z.lnil ?_
                                refine Z.only [4] rfl ?_
                                refine Z.nthen ?_
                                refine Z.ret ?_
                                repeat (first | refine Z.rthen ?_ | refine Z.rblock ?_ | refine Z.rscope ?_)
                                -- ret#4
                                refine Z.out1 (by exact ⟨rfl, trivial⟩) ?_
                                first | exact ⟨_, rfl, rfl, hs⟩ | exact ⟨_, rfl, rfl, hs.sub (List.nil_sublist _)⟩
                                )
                          · first
                              | (exfalso; simp at hc14 <;> omega)
                              | (
                                (try simp at hc14)
                                refine Z.skip ?_
                                refine Z.nthen ?_
                                refine Z.seq ?_
                                refine Z.drawL [SX.Ent.blk g7 65 #[.slice Ab nb cb, .int .i64 (a : Int)]] (fun _ => true) mixed hs ?_
                                clear hs; intro wd16 hs
                                refine Z.tb [0] (by kernel_rfl) rfl ⟨_, hs, by first | (simp; done) | exact fun e he => List.mem_append_right _ he⟩ rfl ?_
                                refine Z.t 1 rfl rfl rfl (by rfl) (by kernel_rfl) ⟨_, hs, by first | (simp; done) | exact fun e he => List.mem_append_right _ he⟩ (by first | exact Z.Yd.loadA _ rfl Try.isAgg65 (fun _ => Z.cellsB (by first | ((repeat (first | exact List.mem_cons_self | refine List.mem_cons_of_mem _ ?_ | refine List.mem_append_right _ ?_)); done) | fail)) (by exact Try.sizeOf65) | fail "load 16.1") ?_
                                refine Z.tb [2, 3] (by kernel_rfl) rfl ⟨_, hs, by first | (simp; done) | exact fun e he => List.mem_append_right _ he⟩ rfl ?_
                                refine Z.t 4 rfl rfl rfl (by rfl) (by kernel_rfl) ⟨_, hs, by first | (simp; done) | exact fun e he => List.mem_append_right _ he⟩ (Z.Yd.elem rfl rfl Try.underlying63 Try.sizeOf68 (fun hG => ⟨(by first | omega | (have hG' := Z.gh rfl hG; simp at hG'; omega)), (by first | omega | (have hG' := Z.gh rfl hG; simp at hG'; omega))⟩)) ?_
                                refine Z.t 5 rfl rfl rfl (by rfl) (by kernel_rfl) ⟨_, hs, by first | (simp; done) | exact fun e he => List.mem_append_right _ he⟩ (Z.Yd.loadA _ rfl Try.isAgg68 (fun _ => Z.cellsX (encK x) hy encK_length hf rfl) (by exact Try.sizeOf68)) ?_
                                refine Z.fork2 6 10 rfl rfl rfl (by kernel_rfl) rfl rfl trivial trivial ?_ ?_
                                · skip
                                  first
                                  | (replace hs : SX.St w [] _ (RdL gr 73 svr l a ++ [SX.Ent.blk g7 65 #[.slice Ab nb cb, .int .i64 (a : Int)], SX.Ent.row (.slice Ab nb cb) 5 1 nb (ints .u8 (bits (unb l))), SX.Ent.blk g10 65 #[.slice none 0 0, .int .i64 0]]) := hs.sel [1, 2, 3, 4, 0] (by decide))
                                  | skip
                                  refine Z.ZO.call rfl rfl (by rfl) rfl rfl Try.call30 rfl (ask_any gr _ svr l a Ab nb cb x _ (hs.lend (L1 := RdL _ _ _ _ _)) (Z.row_lentv (L1 := RdL _ _ _ _ _) hs (j := 1) rfl) hnb hcb (by omega) ha hb (hgx.ls.sx.lent (L1 := RdL _ _ _ _ _) hs) (by omega) hgx) ?_
                                  rintro v16_6 w16_6 ⟨a2, rfl, ha2, hz⟩
                                  replace hs := hs.regain (L1 := RdL _ _ _ _ _) hz
                                  simp only [RdL, List.cons_append, List.nil_append] at hs
                                  refine Z.tk (Dn := fun _ => true) (i := 6) (fun _ => ⟨_, hs, by first | (simp; done) | exact fun e he => List.mem_append_right _ he⟩) ?_
                                  refine Z.tb [7, 8, 9] (by kernel_rfl) rfl ⟨_, hs, by first | (simp; done) | exact fun e he => List.mem_append_right _ he⟩ rfl ?_
                                  refine Z.tn 10 rfl rfl (by kernel_rfl) rfl trivial ?_
                                  refine Z.ZO.alloc rfl rfl (by rfl) Try.zeroValue65 rfl hs ?_
                                  clear hs; intro g10 w10 hs
                                  refine Z.tk (Dn := fun _ => true) (i := 10) (fun _ => ⟨_, hs, by first | (simp; done) | exact fun e he => List.mem_append_right _ he⟩) ?_
                                  refine Z.tn 11 rfl rfl (by kernel_rfl) rfl trivial ?_
                                  refine Z.ZO.storeA rfl rfl hs rfl rfl (by kernel_rfl) (by simp [Value.oneCell']) (by first | exact SX.at0 | exact SX.at1 | exact SX.at2 | exact SX.at3 | exact SX.at4 | exact SX.at5 | exact Z.at6 | exact Z.at7 | exact Z.at8 | exact Z.at9 | exact Z.at10 | exact Z.at11 | exact Z.at12) (by rfl) ?_
                                  clear hs; intro ws hs
                                  simp only [Nat.zero_add, Nat.add_zero, Nat.reduceAdd, List.set_cons_zero, List.set_cons_succ, List.setIfInBounds_toArray] at hs
                                  refine Z.tk (Dn := fun _ => true) (i := 11) (fun _ => ⟨_, hs, by first | (simp; done) | exact fun e he => List.mem_append_right _ he⟩) ?_
                                  refine Z.tb [12] (by kernel_rfl) rfl ⟨_, hs, by first | (simp; done) | exact fun e he => List.mem_append_right _ he⟩ rfl ?_
                                  refine Z.td (by rfl) (by kernel_rfl) ?_
                                  refine Z.only [1, 6, 7, 9, 10, 11] rfl ?_
                                  refine Z.nthen ?_
                                  refine Z.seq ?_
                                  refine Z.region ?_
                                  refine Z.l rfl rfl (by rfl) (Z.keepS hs) (by first | exact Z.Yd.loadA _ rfl Try.isAgg65 (fun _ => Z.cellsB (by first | ((repeat (first | exact List.mem_cons_self | refine List.mem_cons_of_mem _ ?_ | refine List.mem_append_right _ ?_)); done) | fail)) (by exact Try.sizeOf65) | fail "load 17.0") ?_
                                  refine Z.le rfl trivial ?_
                                  refine Z.ZO.storeA rfl rfl hs rfl rfl (by kernel_rfl) (by simp [Value.oneCell']) (by first | exact SX.at0 | exact SX.at1 | exact SX.at2 | exact SX.at3 | exact SX.at4 | exact SX.at5 | exact Z.at6 | exact Z.at7 | exact Z.at8 | exact Z.at9 | exact Z.at10 | exact Z.at11 | exact Z.at12) (by rfl) ?_
                                  clear hs; intro ws hs
                                  simp only [Nat.zero_add, Nat.add_zero, Nat.reduceAdd, List.set_cons_zero, List.set_cons_succ, List.setIfInBounds_toArray] at hs
                                  refine Z.lnil ?_
                                  refine Z.only [1, 6, 7, 9, 11] rfl ?_
                                  first
                                  | (replace hs : SX.St w [] _ (RdL gr 73 svr l a2 ++ [SX.Ent.blk g7 65 #[.slice Ab nb cb, .int .i64 (a2 : Int)], SX.Ent.row (.slice Ab nb cb) 5 1 nb (ints .u8 (bits (unb l)))]) := hs.sel [1, 2, 3, 4] (by decide))
                                  | (replace hs : SX.St w [] _ (RdL gr 73 svr l a2 ++ [SX.Ent.blk g7 65 #[.slice Ab nb cb, .int .i64 (a2 : Int)], SX.Ent.row (.slice Ab nb cb) 5 1 nb (ints .u8 (bits (unb l)))]) := hs.sel [0, 1, 2, 3] (by decide))
                                  refine Z.nthen ?_
                                  refine Z.seq ?_
                                  refine Z.drawL [SX.Ent.blk g7 65 #[.slice Ab nb cb, .int .i64 (a2 : Int)]] (fun _ => true) mixed hs ?_
                                  clear hs; intro wd18 hs
                                  refine Z.tb [0, 1, 2, 3] (by kernel_rfl) rfl ⟨_, hs, by first | (simp; done) | exact fun e he => List.mem_append_right _ he⟩ rfl ?_
                                  refine Z.t 5 rfl rfl rfl (by rfl) (by kernel_rfl) ⟨_, hs, by first | (simp; done) | exact fun e he => List.mem_append_right _ he⟩ (Z.Yd.fieldA (m := 1) rfl (by kernel_rfl)) ?_
                                  refine Z.t 6 rfl rfl rfl (by rfl) (by kernel_rfl) ⟨_, hs, by first | (simp; done) | exact fun e he => List.mem_append_right _ he⟩ (by first | exact Z.Yd.load rfl Try.isAgg3 (fun _ => Z.cellB (by first | ((repeat (first | exact List.mem_cons_self | refine List.mem_cons_of_mem _ ?_ | refine List.mem_append_right _ ?_)); done) | fail) rfl) | exact Z.Yd.load rfl Try.isAgg3 (fun _ => Z.cellO (by assumption) (by simp) (by assumption)) | fail "load 18.6") ?_
                                  refine Z.yes (s := 69) (b := false) rfl rfl rfl ?_
                                  refine Z.tn 4 rfl rfl (by kernel_rfl) rfl (by exact ⟨rfl, trivial⟩) ?_
                                  refine Z.ZO.call rfl rfl (by rfl) rfl rfl Try.call23 rfl (rat_any gr _ svr l a2 _ (hs.lend (L1 := RdL _ _ _ _ _))) ?_
                                  rintro v18_4 w18_4 ⟨rfl, hz⟩
                                  replace hs := hs.regain (L1 := RdL _ _ _ _ _) hz
                                  refine Z.tk (Dn := fun _ => true) (i := 4) (fun _ => ⟨_, hs, by first | (simp; done) | exact fun e he => List.mem_append_right _ he⟩) ?_
                                  refine Z.tb [7, 8, 9, 10] (by kernel_rfl) rfl ⟨_, hs, by first | (simp; done) | exact fun e he => List.mem_append_right _ he⟩ rfl ?_
                                  refine Z.t 12 rfl rfl rfl (by rfl) (by kernel_rfl) ⟨_, hs, by first | (simp; done) | exact fun e he => List.mem_append_right _ he⟩ (Z.Yd.fieldA (m := 0) rfl (by kernel_rfl)) ?_
                                  refine Z.t 13 rfl rfl rfl (by rfl) (by kernel_rfl) ⟨_, hs, by first | (simp; done) | exact fun e he => List.mem_append_right _ he⟩ (by first | exact Z.Yd.load rfl Try.isAgg25 (fun _ => Z.cellB (by first | ((repeat (first | exact List.mem_cons_self | refine List.mem_cons_of_mem _ ?_ | refine List.mem_append_right _ ?_)); done) | fail) rfl) | exact Z.Yd.load rfl Try.isAgg25 (fun _ => Z.cellO (by assumption) (by simp) (by assumption)) | fail "load 18.13") ?_
                                  refine Z.t 14 rfl rfl rfl (by rfl) (by kernel_rfl) ⟨_, hs, by first | (simp; done) | exact fun e he => List.mem_append_right _ he⟩ (Z.Yd.lenS rfl Try.underlying25) ?_
                                  refine Z.t 15 rfl rfl rfl (by rfl) (by kernel_rfl) ⟨_, hs, by first | (simp; done) | exact fun e he => List.mem_append_right _ he⟩ (Z.Yd.fieldA (m := 1) rfl (by kernel_rfl)) ?_
                                  refine Z.t 16 rfl rfl rfl (by rfl) (by kernel_rfl) ⟨_, hs, by first | (simp; done) | exact fun e he => List.mem_append_right _ he⟩ (by first | exact Z.Yd.load rfl Try.isAgg3 (fun _ => Z.cellB (by first | ((repeat (first | exact List.mem_cons_self | refine List.mem_cons_of_mem _ ?_ | refine List.mem_append_right _ ?_)); done) | fail) rfl) | exact Z.Yd.load rfl Try.isAgg3 (fun _ => Z.cellO (by assumption) (by simp) (by assumption)) | fail "load 18.16") ?_
                                  refine Z.t 17 rfl rfl rfl (by rfl) (by kernel_rfl) ⟨_, hs, by first | (simp; done) | exact fun e he => List.mem_append_right _ he⟩ (Z.Yd.sub rfl rfl (fun hG => Z.wi64 (by first | omega | (have hG' := Z.gh rfl hG; simp at hG'; omega)))) ?_
                                  refine Z.yes (s := 76) (b := false) rfl (by simp) rfl ?_
                                  refine Z.tn 11 rfl rfl (by kernel_rfl) rfl (by exact ⟨rfl, trivial⟩) ?_
                                  refine Z.ZO.call rfl rfl (by rfl) rfl rfl Try.call24 rfl (rleft_any gr _ svr l a2 _ (hs.lend (L1 := RdL _ _ _ _ _)) (by omega) ha2) ?_
                                  rintro v18_11 w18_11 ⟨rfl, hz⟩
                                  replace hs := hs.regain (L1 := RdL _ _ _ _ _) hz
                                  refine Z.tk (Dn := fun _ => true) (i := 11) (fun _ => ⟨_, hs, by first | (simp; done) | exact fun e he => List.mem_append_right _ he⟩) ?_
                                  refine Z.tb [18, 19, 20, 21] (by kernel_rfl) rfl ⟨_, hs, by first | (simp; done) | exact fun e he => List.mem_append_right _ he⟩ rfl ?_
                                  refine Z.t 24 rfl rfl rfl (by rfl) (by kernel_rfl) ⟨_, hs, by first | (simp; done) | exact fun e he => List.mem_append_right _ he⟩ (by first | exact Z.Yd.loadA _ rfl Try.isAgg65 (fun _ => Z.cellsB (by first | ((repeat (first | exact List.mem_cons_self | refine List.mem_cons_of_mem _ ?_ | refine List.mem_append_right _ ?_)); done) | fail)) (by exact Try.sizeOf65) | fail "load 18.24") ?_
                                  refine Z.yes (s := 87) (b := false) rfl (by simp; omega) rfl ?_
                                  refine Z.tn 22 rfl rfl (by kernel_rfl) rfl (by exact ⟨rfl, trivial⟩) ?_
                                  refine Z.ZO.call rfl rfl (by rfl) rfl rfl Try.call27 rfl (rend_any gr _ svr l a2 _ (hs.lend (L1 := RdL _ _ _ _ _)) (by omega) ha2 hb) ?_
                                  rintro v18_22 w18_22 ⟨rfl, hz⟩
                                  replace hs := hs.regain (L1 := RdL _ _ _ _ _) hz
                                  refine Z.tk (Dn := fun _ => true) (i := 22) (fun _ => ⟨_, hs, by first | (simp; done) | exact fun e he => List.mem_append_right _ he⟩) ?_
                                  refine Z.tn 23 rfl rfl (by kernel_rfl) rfl (by exact ⟨rfl, trivial⟩) ?_
                                  refine Z.ZO.call rfl rfl (by rfl) rfl rfl Try.call18 rfl (num_any _ _) ?_
                                  rintro v18_23 w18_23 ⟨rfl, hy1⟩
                                  replace hs := hs.call hy1
                                  refine Z.tk (Dn := fun _ => true) (i := 23) (fun _ => ⟨_, hs, by first | (simp; done) | exact fun e he => List.mem_append_right _ he⟩) ?_
                                  refine Z.tn 25 rfl rfl (by kernel_rfl) rfl (by exact ⟨rfl, trivial⟩) ?_
                                  refine Z.ZO.call rfl rfl (by rfl) rfl rfl Try.call31 rfl (refend Ab nb cb l a2 _ (SX.row_slB hs (j := 3) rfl) hnb hcb (by omega) ha2) ?_
                                  rintro v18_25 w18_25 ⟨rfl, hy1⟩
                                  replace hs := hs.call hy1
                                  refine Z.tk (Dn := fun _ => true) (i := 25) (fun _ => ⟨_, hs, by first | (simp; done) | exact fun e he => List.mem_append_right _ he⟩) ?_
                                  refine Z.tb [26, 27] (by kernel_rfl) rfl ⟨_, hs, by first | (simp; done) | exact fun e he => List.mem_append_right _ he⟩ rfl ?_
                                  refine Z.td (by rfl) (by kernel_rfl) ?_
                                  refine Z.only [1, 6, 7, 9, 94] rfl ?_
                                  refine Z.nthen ?_
                                  refine Z.cond rfl (fun h => absurd h (by simp)) (fun hc18 => ?_)
                                  refine Z.skip ?_
                                  refine Z.nblock ?_
                                  refine Z.nthen ?_
                                  refine Z.region ?_
                                  refine Z.lb 1 rfl ?_
                                  refine Z.l rfl rfl (by rfl) (Z.keepS hs) (Z.Yd.add rfl rfl (fun hG => Z.wi64 (by first | omega | (have hG' := Z.gh rfl hG; simp at hG'; omega)))) ?_
                                  refine Z.lb 1 rfl ?_
                                  refine Z.lnil ?_
                                  refine Z.only [1, 6, 7, 9] rfl ?_
                                  refine Z.nthen ?_
                                  exact Z.again (k2 + 1, a2) (by refine ⟨?_, ?_, ?_, ?_, trivial⟩ <;> (first | rfl | (refine Z.lookv rfl ?_; simp; done) | (refine Z.lookv rfl ?_; simp; omega))) ⟨by simp only; omega, ha2, hs⟩ (by simp only; omega)
                                · skip
                                  refine Z.ZO.alloc rfl rfl (by rfl) Try.zeroValue65 rfl hs ?_
                                  clear hs; intro g10 w10 hs
                                  refine Z.tk (Dn := fun _ => true) (i := 10) (fun _ => ⟨_, hs, by first | (simp; done) | exact fun e he => List.mem_append_right _ he⟩) ?_
                                  first
                                  | (replace hs : SX.St w [] _ (RdL gr 73 svr l a ++ [SX.Ent.blk g7 65 #[.slice Ab nb cb, .int .i64 (a : Int)], SX.Ent.row (.slice Ab nb cb) 5 1 nb (ints .u8 (bits (unb l))), SX.Ent.blk g10 65 #[.slice none 0 0, .int .i64 0]]) := hs.sel [1, 2, 3, 4, 0] (by decide))
                                  | skip
                                  refine Z.tn 6 rfl rfl (by kernel_rfl) rfl trivial ?_
                                  refine Z.ZO.call rfl rfl (by rfl) rfl rfl Try.call30 rfl (ask_any gr _ svr l a Ab nb cb x _ (hs.lend (L1 := RdL _ _ _ _ _)) (Z.row_lentv (L1 := RdL _ _ _ _ _) hs (j := 1) rfl) hnb hcb (by omega) ha hb (hgx.ls.sx.lent (L1 := RdL _ _ _ _ _) hs) (by omega) hgx) ?_
                                  rintro v16_6 w16_6 ⟨a2, rfl, ha2, hz⟩
                                  replace hs := hs.regain (L1 := RdL _ _ _ _ _) hz
                                  simp only [RdL, List.cons_append, List.nil_append] at hs
                                  refine Z.tk (Dn := fun _ => true) (i := 6) (fun _ => ⟨_, hs, by first | (simp; done) | exact fun e he => List.mem_append_right _ he⟩) ?_
                                  refine Z.tb [7, 8, 9] (by kernel_rfl) rfl ⟨_, hs, by first | (simp; done) | exact fun e he => List.mem_append_right _ he⟩ rfl ?_
                                  refine Z.tn 11 rfl rfl (by kernel_rfl) rfl trivial ?_
                                  refine Z.ZO.storeA rfl rfl hs rfl rfl (by kernel_rfl) (by simp [Value.oneCell']) (by first | exact SX.at0 | exact SX.at1 | exact SX.at2 | exact SX.at3 | exact SX.at4 | exact SX.at5 | exact Z.at6 | exact Z.at7 | exact Z.at8 | exact Z.at9 | exact Z.at10 | exact Z.at11 | exact Z.at12) (by rfl) ?_
                                  clear hs; intro ws hs
                                  simp only [Nat.zero_add, Nat.add_zero, Nat.reduceAdd, List.set_cons_zero, List.set_cons_succ, List.setIfInBounds_toArray] at hs
                                  refine Z.tk (Dn := fun _ => true) (i := 11) (fun _ => ⟨_, hs, by first | (simp; done) | exact fun e he => List.mem_append_right _ he⟩) ?_
                                  refine Z.tb [12] (by kernel_rfl) rfl ⟨_, hs, by first | (simp; done) | exact fun e he => List.mem_append_right _ he⟩ rfl ?_
                                  refine Z.td (by rfl) (by kernel_rfl) ?_
                                  refine Z.only [1, 6, 7, 9, 10, 11] rfl ?_
                                  refine Z.nthen ?_
                                  refine Z.seq ?_
                                  refine Z.region ?_
                                  refine Z.l rfl rfl (by rfl) (Z.keepS hs) (by first | exact Z.Yd.loadA _ rfl Try.isAgg65 (fun _ => Z.cellsB (by first | ((repeat (first | exact List.mem_cons_self | refine List.mem_cons_of_mem _ ?_ | refine List.mem_append_right _ ?_)); done) | fail)) (by exact Try.sizeOf65) | fail "load 17.0") ?_
                                  refine Z.le rfl trivial ?_
                                  refine Z.ZO.storeA rfl rfl hs rfl rfl (by kernel_rfl) (by simp [Value.oneCell']) (by first | exact SX.at0 | exact SX.at1 | exact SX.at2 | exact SX.at3 | exact SX.at4 | exact SX.at5 | exact Z.at6 | exact Z.at7 | exact Z.at8 | exact Z.at9 | exact Z.at10 | exact Z.at11 | exact Z.at12) (by rfl) ?_
                                  clear hs; intro ws hs
                                  simp only [Nat.zero_add, Nat.add_zero, Nat.reduceAdd, List.set_cons_zero, List.set_cons_succ, List.setIfInBounds_toArray] at hs
                                  refine Z.lnil ?_
                                  refine Z.only [1, 6, 7, 9, 11] rfl ?_
                                  first
                                  | (replace hs : SX.St w [] _ (RdL gr 73 svr l a2 ++ [SX.Ent.blk g7 65 #[.slice Ab nb cb, .int .i64 (a2 : Int)], SX.Ent.row (.slice Ab nb cb) 5 1 nb (ints .u8 (bits (unb l)))]) := hs.sel [1, 2, 3, 4] (by decide))
                                  | (replace hs : SX.St w [] _ (RdL gr 73 svr l a2 ++ [SX.Ent.blk g7 65 #[.slice Ab nb cb, .int .i64 (a2 : Int)], SX.Ent.row (.slice Ab nb cb) 5 1 nb (ints .u8 (bits (unb l)))]) := hs.sel [0, 1, 2, 3] (by decide))
                                  refine Z.nthen ?_
                                  refine Z.seq ?_
                                  refine Z.drawL [SX.Ent.blk g7 65 #[.slice Ab nb cb, .int .i64 (a2 : Int)]] (fun _ => true) mixed hs ?_
                                  clear hs; intro wd18 hs
                                  refine Z.tb [0, 1, 2, 3] (by kernel_rfl) rfl ⟨_, hs, by first | (simp; done) | exact fun e he => List.mem_append_right _ he⟩ rfl ?_
                                  refine Z.t 5 rfl rfl rfl (by rfl) (by kernel_rfl) ⟨_, hs, by first | (simp; done) | exact fun e he => List.mem_append_right _ he⟩ (Z.Yd.fieldA (m := 1) rfl (by kernel_rfl)) ?_
                                  refine Z.t 6 rfl rfl rfl (by rfl) (by kernel_rfl) ⟨_, hs, by first | (simp; done) | exact fun e he => List.mem_append_right _ he⟩ (by first | exact Z.Yd.load rfl Try.isAgg3 (fun _ => Z.cellB (by first | ((repeat (first | exact List.mem_cons_self | refine List.mem_cons_of_mem _ ?_ | refine List.mem_append_right _ ?_)); done) | fail) rfl) | exact Z.Yd.load rfl Try.isAgg3 (fun _ => Z.cellO (by assumption) (by simp) (by assumption)) | fail "load 18.6") ?_
                                  refine Z.yes (s := 69) (b := false) rfl rfl rfl ?_
                                  refine Z.tn 4 rfl rfl (by kernel_rfl) rfl (by exact ⟨rfl, trivial⟩) ?_
                                  refine Z.ZO.call rfl rfl (by rfl) rfl rfl Try.call23 rfl (rat_any gr _ svr l a2 _ (hs.lend (L1 := RdL _ _ _ _ _))) ?_
                                  rintro v18_4 w18_4 ⟨rfl, hz⟩
                                  replace hs := hs.regain (L1 := RdL _ _ _ _ _) hz
                                  refine Z.tk (Dn := fun _ => true) (i := 4) (fun _ => ⟨_, hs, by first | (simp; done) | exact fun e he => List.mem_append_right _ he⟩) ?_
                                  refine Z.tb [7, 8, 9, 10] (by kernel_rfl) rfl ⟨_, hs, by first | (simp; done) | exact fun e he => List.mem_append_right _ he⟩ rfl ?_
                                  refine Z.t 12 rfl rfl rfl (by rfl) (by kernel_rfl) ⟨_, hs, by first | (simp; done) | exact fun e he => List.mem_append_right _ he⟩ (Z.Yd.fieldA (m := 0) rfl (by kernel_rfl)) ?_
                                  refine Z.t 13 rfl rfl rfl (by rfl) (by kernel_rfl) ⟨_, hs, by first | (simp; done) | exact fun e he => List.mem_append_right _ he⟩ (by first | exact Z.Yd.load rfl Try.isAgg25 (fun _ => Z.cellB (by first | ((repeat (first | exact List.mem_cons_self | refine List.mem_cons_of_mem _ ?_ | refine List.mem_append_right _ ?_)); done) | fail) rfl) | exact Z.Yd.load rfl Try.isAgg25 (fun _ => Z.cellO (by assumption) (by simp) (by assumption)) | fail "load 18.13") ?_
                                  refine Z.t 14 rfl rfl rfl (by rfl) (by kernel_rfl) ⟨_, hs, by first | (simp; done) | exact fun e he => List.mem_append_right _ he⟩ (Z.Yd.lenS rfl Try.underlying25) ?_
                                  refine Z.t 15 rfl rfl rfl (by rfl) (by kernel_rfl) ⟨_, hs, by first | (simp; done) | exact fun e he => List.mem_append_right _ he⟩ (Z.Yd.fieldA (m := 1) rfl (by kernel_rfl)) ?_
                                  refine Z.t 16 rfl rfl rfl (by rfl) (by kernel_rfl) ⟨_, hs, by first | (simp; done) | exact fun e he => List.mem_append_right _ he⟩ (by first | exact Z.Yd.load rfl Try.isAgg3 (fun _ => Z.cellB (by first | ((repeat (first | exact List.mem_cons_self | refine List.mem_cons_of_mem _ ?_ | refine List.mem_append_right _ ?_)); done) | fail) rfl) | exact Z.Yd.load rfl Try.isAgg3 (fun _ => Z.cellO (by assumption) (by simp) (by assumption)) | fail "load 18.16") ?_
                                  refine Z.t 17 rfl rfl rfl (by rfl) (by kernel_rfl) ⟨_, hs, by first | (simp; done) | exact fun e he => List.mem_append_right _ he⟩ (Z.Yd.sub rfl rfl (fun hG => Z.wi64 (by first | omega | (have hG' := Z.gh rfl hG; simp at hG'; omega)))) ?_
                                  refine Z.yes (s := 76) (b := false) rfl (by simp) rfl ?_
                                  refine Z.tn 11 rfl rfl (by kernel_rfl) rfl (by exact ⟨rfl, trivial⟩) ?_
                                  refine Z.ZO.call rfl rfl (by rfl) rfl rfl Try.call24 rfl (rleft_any gr _ svr l a2 _ (hs.lend (L1 := RdL _ _ _ _ _)) (by omega) ha2) ?_
                                  rintro v18_11 w18_11 ⟨rfl, hz⟩
                                  replace hs := hs.regain (L1 := RdL _ _ _ _ _) hz
                                  refine Z.tk (Dn := fun _ => true) (i := 11) (fun _ => ⟨_, hs, by first | (simp; done) | exact fun e he => List.mem_append_right _ he⟩) ?_
                                  refine Z.tb [18, 19, 20, 21] (by kernel_rfl) rfl ⟨_, hs, by first | (simp; done) | exact fun e he => List.mem_append_right _ he⟩ rfl ?_
                                  refine Z.t 24 rfl rfl rfl (by rfl) (by kernel_rfl) ⟨_, hs, by first | (simp; done) | exact fun e he => List.mem_append_right _ he⟩ (by first | exact Z.Yd.loadA _ rfl Try.isAgg65 (fun _ => Z.cellsB (by first | ((repeat (first | exact List.mem_cons_self | refine List.mem_cons_of_mem _ ?_ | refine List.mem_append_right _ ?_)); done) | fail)) (by exact Try.sizeOf65) | fail "load 18.24") ?_
                                  refine Z.yes (s := 87) (b := false) rfl (by simp; omega) rfl ?_
                                  refine Z.tn 22 rfl rfl (by kernel_rfl) rfl (by exact ⟨rfl, trivial⟩) ?_
                                  refine Z.ZO.call rfl rfl (by rfl) rfl rfl Try.call27 rfl (rend_any gr _ svr l a2 _ (hs.lend (L1 := RdL _ _ _ _ _)) (by omega) ha2 hb) ?_
                                  rintro v18_22 w18_22 ⟨rfl, hz⟩
                                  replace hs := hs.regain (L1 := RdL _ _ _ _ _) hz
                                  refine Z.tk (Dn := fun _ => true) (i := 22) (fun _ => ⟨_, hs, by first | (simp; done) | exact fun e he => List.mem_append_right _ he⟩) ?_
                                  refine Z.tn 23 rfl rfl (by kernel_rfl) rfl (by exact ⟨rfl, trivial⟩) ?_
                                  refine Z.ZO.call rfl rfl (by rfl) rfl rfl Try.call18 rfl (num_any _ _) ?_
                                  rintro v18_23 w18_23 ⟨rfl, hy1⟩
                                  replace hs := hs.call hy1
                                  refine Z.tk (Dn := fun _ => true) (i := 23) (fun _ => ⟨_, hs, by first | (simp; done) | exact fun e he => List.mem_append_right _ he⟩) ?_
                                  refine Z.tn 25 rfl rfl (by kernel_rfl) rfl (by exact ⟨rfl, trivial⟩) ?_
                                  refine Z.ZO.call rfl rfl (by rfl) rfl rfl Try.call31 rfl (refend Ab nb cb l a2 _ (SX.row_slB hs (j := 3) rfl) hnb hcb (by omega) ha2) ?_
                                  rintro v18_25 w18_25 ⟨rfl, hy1⟩
                                  replace hs := hs.call hy1
                                  refine Z.tk (Dn := fun _ => true) (i := 25) (fun _ => ⟨_, hs, by first | (simp; done) | exact fun e he => List.mem_append_right _ he⟩) ?_
                                  refine Z.tb [26, 27] (by kernel_rfl) rfl ⟨_, hs, by first | (simp; done) | exact fun e he => List.mem_append_right _ he⟩ rfl ?_
                                  refine Z.td (by rfl) (by kernel_rfl) ?_
                                  refine Z.only [1, 6, 7, 9, 94] rfl ?_
                                  refine Z.nthen ?_
                                  refine Z.cond rfl (fun h => absurd h (by simp)) (fun hc18 => ?_)
                                  refine Z.skip ?_
                                  refine Z.nblock ?_
                                  refine Z.nthen ?_
                                  refine Z.region ?_
                                  refine Z.lb 1 rfl ?_
                                  refine Z.l rfl rfl (by rfl) (Z.keepS hs) (Z.Yd.add rfl rfl (fun hG => Z.wi64 (by first | omega | (have hG' := Z.gh rfl hG; simp at hG'; omega)))) ?_
                                  refine Z.lb 1 rfl ?_
                                  refine Z.lnil ?_
                                  refine Z.only [1, 6, 7, 9] rfl ?_
                                  refine Z.nthen ?_
                                  exact Z.again (k2 + 1, a2) (by refine ⟨?_, ?_, ?_, ?_, trivial⟩ <;> (first | rfl | (refine Z.lookv rfl ?_; simp; done) | (refine Z.lookv rfl ?_; simp; omega))) ⟨by simp only; omega, ha2, hs⟩ (by simp only; omega)
                                )
                          )
                    · first
                        | (exfalso; simp at hc12 <;> omega)
                        | (
                          (try simp at hc12)
                          refine Z.exit ?_
                          refine Z.xthen ?_
                          refine Z.xthen ?_
                          refine Z.xblock ?_
                          refine Z.nthen ?_
                          refine Z.seq ?_
                          refine Z.region ?_
                          refine Z.le rfl trivial ?_
                          refine Z.ZO.call rfl rfl (by rfl) rfl rfl Try.call10 rfl (works_any _) ?_
                          rintro v20_0 w20_0 ⟨rfl, hy1⟩
                          replace hs := hs.call hy1
                          refine Z.lb 1 rfl ?_
                          refine Z.lnil ?_
                          refine Z.only [4] rfl ?_
                          refine Z.nthen ?_
                          refine Z.ret ?_
                          -- ret#5
                          refine Z.out1 (by exact ⟨rfl, trivial⟩) ?_
                          first | exact ⟨_, rfl, rfl, hs⟩ | exact ⟨_, rfl, rfl, hs.sub (List.nil_sublist _)⟩
                          )
                    )
              )
        )

theorem rd_asks {W : World} {A : Option Addr} {n c : Nat} (z : Rd Try.prog W 63 [.slice A n c]) : ∃ l : List AskV, l.length = n ∧ n ≤ maxLen ∧ (∀ x ∈ l, GoodK W x) ∧ Sl W A (l.flatMap encK) := by
  have c3 : Try.prog.cellsOf 68 = 3 := by kernel_rfl
  obtain ⟨xs, h1, h2, h3, h4, h5⟩ := Rd.rows encK (GoodK W) Try.underlying63 (by rw [c3]; decide) (fun r hr => rd_ask hr) (fun x => c3.symm) z
  exact ⟨xs, h1, Nat.le_trans h2 h3, h4, h5⟩
theorem fieldReads_rd (a0 : Option Addr) (len0 cap0 : Nat) (a1 : Option Addr) (len1 cap1 : Nat) (w : World) (z0 : Rd Try.prog w 25 (Value.slice a0 len0 cap0).cells.toList) (z1 : Rd Try.prog w 63 (Value.slice a1 len1 cap1).cells.toList) :
    Calls Try.prog 7 #[.slice a0 len0 cap0, .slice a1 len1 cap1] w fun e w' => e = .returned (.bool true) ∧ Below w.heap.size w w' := by
  obtain ⟨bl, rfl, g2, g3, g4⟩ := rd_bytes z0
  obtain ⟨l, h1, h2, h3, h4⟩ := rd_asks z1
  exact rowOf (fieldReads_walk a0 cap0 bl a1 len1 cap1 l w g4 g2 g3 h4 h1 h2 h3)
end Go.Proofs.Ytggikablbdhniaa
