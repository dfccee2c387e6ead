/- FieldOwn. -/
import Derived.Test.YtggikablbdhniaaFr
namespace Go.Proofs.Ytggikablbdhniaa
open Go.RowKit
set_option linter.unusedSimpArgs false
set_option linter.unusedVariables false

theorem ints_set {k : IntKind} {l : List Int} {i : Nat} {z : Int} : (ints k l).set i (.int k z) = ints k (l.set i z) := by
  simp only [ints]
  rw [List.map_set]

set_option maxRecDepth 100000 in
theorem fieldOwn_walk (A : Option Addr) (n c : Nat) (l : List ActV) (B : Option Addr) (m d : Nat) (bl : List Int) (w : World) (hx : Sl w A (l.flatMap encA)) (hl : l.length = n) (hn : n ≤ maxLen) (hg : ∀ x ∈ l, GoodA w x)
    (hy : Sl w B (ints .u8 bl)) (hm : bl.length = m) (hm2 : m ≤ maxLen) (hbl : ∀ x ∈ bl, 0 ≤ x ∧ x < 256) :
    Calls Try.prog 4 #[.slice A n c, .slice B m d] w (SX.Ret fun r w' => r = .bool true ∧ SX.St w [] w' []) := by
  have hs := SX.St.start w
  replace hx := hx.sx
  have hmx : maxLen = 9223372036854775807 := rfl
  have hfl : (l.flatMap encA).length = n * 5 := by rw [Z.flat_length (s := 5) encA_length, hl]
  refine Z.enter Try.func4 rfl Try.ntmps4 rfl rfl ?_
  refine Z.seq ?_
  refine Z.region ?_
  refine Z.lb 1 rfl ?_
  refine Z.lnil ?_
  refine Z.only [0, 1] rfl ?_
  refine Z.nthen ?_
  refine Z.seq ?_
  refine Z.seq ?_
  refine Z.region ?_
  refine Z.lb 1 rfl ?_
  refine Z.le rfl trivial ?_
  refine Z.ZO.call rfl rfl (by rfl) rfl rfl Try.call9 rfl (few_any A n c l _ ((hx.st hs).sx) hl hg) ?_
  rintro v1_1 w1_1 ⟨rfl, hy1⟩
  replace hs := hs.call hy1
  refine Z.lb 2 rfl ?_
  refine Z.split (s := 18) rfl (fun hsp18 => ?_) (fun hsp18 => ?_)
  · refine Z.yes (s := 18) (b := true) rfl hsp18 rfl ?_
    (try simp at hsp18)
    refine Z.ls rfl rfl rfl (by rfl) ?_
    refine Z.ls rfl rfl rfl (by rfl) ?_
    refine Z.ls rfl rfl rfl (by rfl) ?_
    refine Z.l rfl rfl (by rfl) (Z.keepS hs) (Z.Yd.pickT rfl rfl) ?_
    refine Z.lnil ?_
    refine Z.only [0, 1, 22] rfl ?_
    refine Z.nthen ?_
    refine Z.cond rfl (fun hc1 => ?_) (fun hc1 => ?_)
    · first
        | (exfalso; simp at hc1 <;> omega)
        | (
          (try simp at hc1)
          refine Z.seq ?_
          refine Z.region ?_
          refine Z.le rfl trivial ?_
          refine Z.ZO.call rfl rfl (by rfl) rfl rfl Try.call10 rfl (works_any _) ?_
          rintro v2_0 w2_0 ⟨rfl, hy1⟩
          replace hs := hs.call hy1
          refine Z.lb 1 rfl ?_
          refine Z.lnil ?_
          refine Z.only [4] rfl ?_
          refine Z.nthen ?_
          refine Z.ret ?_
          repeat (first | refine Z.rthen ?_ | refine Z.rblock ?_ | refine Z.rscope ?_)
          -- ret#0
          refine Z.out1 (by exact ⟨rfl, trivial⟩) ?_
          exact ⟨_, rfl, rfl, hs.sub (List.nil_sublist _)⟩
          )
    · first
        | (exfalso; simp at hc1 <;> omega)
        | (
          (try simp at hc1)
          refine Z.skip ?_
          refine Z.nthen ?_
          refine Z.seq ?_
          refine Z.region ?_
          refine Z.le rfl trivial ?_
          refine Z.ZO.alloc rfl rfl (by rfl) Try.zeroValue29 rfl hs ?_
          clear hs; intro g5 w5 hs
          refine Z.lnil ?_
          refine Z.only [0, 1, 5] rfl ?_
          have hc1 : fewA l = true := by simpa using hsp18
          have h40b : m ≤ 40 := by omega
          replace hs := WrL_start hs
          refine Z.nthen ?_
          refine Z.seq ?_
          refine Z.region ?_
          refine Z.lb 1 rfl ?_
          refine Z.lnil ?_
          refine Z.only [0, 1, 5, 6] rfl ?_
          refine Z.nthen ?_
          refine Z.seq ?_
          refine Z.seq ?_
          refine Z.region ?_
          refine Z.lb 1 rfl ?_
          refine Z.lnil ?_
          refine Z.only [0, 1, 5, 6, 7] rfl ?_
          refine Z.nthen ?_
          refine Z.block ?_
          refine Z.loopk (ι := Nat × Value × Value) [0, 1, 5] rfl (fun k => [(6, [], k.2.2), (7, [], .int .i64 (k.1 : Int))]) (fun k wr => k.1 ≤ n ∧ SX.St w [] wr (WbL g5 29 k.2.1 k.2.2 (actsB (l.take k.1)))) (fun k => n - k.1) (0, .slice none 0 0, .slice none 0 0) (by refine ⟨?_, ?_, trivial⟩ <;> (first | rfl | (refine Z.lookv rfl ?_; simp; done) | (refine Z.lookv rfl ?_; simp; omega))) ⟨by omega, (hs.nil 5 1).sel [1, 2, 0] (by decide)⟩ ?_
          clear hs
          rintro ⟨k, sv, sb⟩ w1 ⟨hkn, hs⟩
          refine Z.only [0, 1, 5, 6, 7] rfl ?_
          dsimp only at hs
          refine Z.seq ?_
          refine Z.seq ?_
          refine Z.region ?_
          refine Z.lb 2 rfl ?_
          refine Z.l rfl rfl (by rfl) (Z.keepS hs) (Z.Yd.lenS rfl Try.underlying22) ?_
          refine Z.lb 1 rfl ?_
          refine Z.lnil ?_
          refine Z.only [0, 1, 5, 6, 7, 27] rfl ?_
          refine Z.nthen ?_
          refine Z.cond rfl (fun hc6 => ?_) (fun hc6 => ?_)
          · first
              | (exfalso; simp at hc6 <;> omega)
              | (
                (try simp at hc6)
                obtain ⟨b, off, rfl, hx⟩ := hx.some (by omega)
                obtain ⟨x, hf⟩ : ∃ x, l[k]? = some x := ⟨_, List.getElem?_eq_getElem (by omega)⟩
                have hgx := hg _ (List.mem_of_getElem? hf)
                have h4 := (few_at hc1).2 _ (List.mem_of_getElem? hf)
                have hlen := actsB_length hc1 k (by omega)
                have h40 := (few_at hc1).1
                refine Z.skip ?_
                refine Z.nthen ?_
                refine Z.seq ?_
                refine Z.block ?_
                refine Z.seq ?_
                refine Z.region ?_
                refine Z.lb 3 rfl ?_
                refine Z.l rfl rfl (by rfl) (Z.keepS hs) (Z.Yd.elem rfl rfl Try.underlying22 Try.sizeOf36 (fun hG => ⟨(by first | omega | (have hG' := Z.gh rfl hG; simp at hG'; omega)), (by first | omega | (have hG' := Z.gh rfl hG; simp at hG'; omega))⟩)) ?_
                refine Z.l rfl rfl (by rfl) (Z.keepS hs) (Z.Yd.loadA _ rfl Try.isAgg36 (fun _ => Z.cellsX (encA x) hx encA_length hf rfl) (by exact Try.sizeOf36)) ?_
                refine Z.le rfl trivial ?_
                refine Z.ZO.call rfl rfl (by rfl) rfl rfl Try.call11 rfl (act_any g5 _ sv sb (actsB (l.take k)) x _ hs.all (by omega) hgx (hgx.bs.sx.all hs) (hgx.fs.sx.all hs) h4.1 h4.2) ?_
                rintro v8_5 w8_5 ⟨sv2, sb2, rfl, hz⟩
                replace hs := hs.regainAll hz
                rw [← actsB_snoc hf] at hs
                refine Z.lb 5 rfl ?_
                refine Z.lnil ?_
                refine Z.only [0, 1, 5, 7, 8, 9] rfl ?_
                refine Z.nthen ?_
                refine Z.seq ?_
                refine Z.region ?_
                refine Z.lb 2 rfl ?_
                refine Z.lnil ?_
                refine Z.only [0, 1, 5, 6, 7, 9] rfl ?_
                refine Z.nthen ?_
                refine Z.seq ?_
                refine Z.region ?_
                refine Z.lb 2 rfl ?_
                refine Z.lnil ?_
                refine Z.only [0, 1, 5, 6, 7, 41] rfl ?_
                refine Z.nthen ?_
                refine Z.cond rfl (fun hc10 => ?_) (fun hc10 => ?_)
                · first
                    | (exfalso; simp at hc10 <;> omega)
                    | (
                      (try simp at hc10)
                      refine Z.seq ?_
                      refine Z.region ?_
                      refine Z.lb 1 rfl ?_
                      refine Z.lnil ?_
                      refine Z.only [4] rfl ?_
                      refine Z.nthen ?_
                      refine Z.ret ?_
                      repeat (first | refine Z.rthen ?_ | refine Z.rblock ?_ | refine Z.rscope ?_)
                      -- ret#1
                      refine Z.out1 (by exact ⟨rfl, trivial⟩) ?_
                      exact ⟨_, rfl, rfl, hs.sub (List.nil_sublist _)⟩
                      )
                · first
                    | (exfalso; simp at hc10 <;> omega)
                    | (
                      (try simp at hc10)
                      refine Z.skip ?_
                      refine Z.nblock ?_
                      refine Z.nthen ?_
                      refine Z.region ?_
                      refine Z.lb 1 rfl ?_
                      refine Z.l rfl rfl (by rfl) (Z.keepS hs) (Z.Yd.add rfl rfl (fun hG => Z.wi64 (by first | omega | (have hG' := Z.gh rfl hG; simp at hG'; omega)))) ?_
                      refine Z.lb 1 rfl ?_
                      refine Z.lnil ?_
                      refine Z.only [0, 1, 5, 6, 7] rfl ?_
                      refine Z.nthen ?_
                      exact Z.again (k + 1, sv2, _) (by refine ⟨?_, ?_, ?_, ?_, ?_, trivial⟩ <;> (first | rfl | (refine Z.lookv rfl ?_; simp; done) | (refine Z.lookv rfl ?_; simp; omega))) ⟨by simp only; omega, hs⟩ (by simp only; omega)
                      )
                )
          · first
              | (exfalso; simp at hc6 <;> omega)
              | (
                (try simp at hc6)
                refine Z.exit ?_
                refine Z.xthen ?_
                refine Z.xthen ?_
                refine Z.xblock ?_
                refine Z.nthen ?_
                refine Z.seq ?_
                refine Z.region ?_
                obtain ⟨bs, hbs⟩ : ∃ bs, bs = actsB l := ⟨_, rfl⟩
                have hbl2 : bs.length ≤ 51200 := by
                  have h1 := actsB_length hc1 n (by omega)
                  have h2 := (few_at hc1).1
                  rw [List.take_of_length_le (by omega), ← hbs] at h1
                  omega
                obtain rfl : k = n := by omega
                rw [List.take_of_length_le (by omega), ← hbs] at hs
                refine Z.le rfl trivial ?_
                refine Z.ZO.empty rfl rfl (by rfl) Try.underlying25 Try.sizeOf5 hs ?_
                clear hs; intro g42 w42 hs
                refine Z.lb 1 rfl ?_
                refine Z.le rfl trivial ?_
                refine Z.ZO.appendG (i0 := Try.t5) (size := 1) (bytes := 1) rfl rfl (by rfl) hs Try.underlying25 (by kernel_rfl) rfl rfl rfl rfl (by decide) rfl rfl (by first | exact SX.at0 | exact SX.at1 | exact SX.at2 | exact SX.at3 | exact SX.at4 | exact SX.at5 | exact Z.at6 | exact Z.at7 | exact Z.at8 | exact Z.at9 | exact Z.at10 | exact Z.at11 | exact Z.at12) (hy.st hs) (by first | rfl | (simp [ints_length]; done) | (simp [ints_length]; omega)) (by first | exact Z.ints_one | simp [Value.oneCell']) (by unfold maxLen; omega) (by omega) ?_
                clear hs; intro v44 w44 hs
                simp only [List.set_cons_zero, List.set_cons_succ] at hs
                rw [List.nil_append, Nat.zero_add] at hs
                obtain ⟨Ao, co, rfl, -, -, -⟩ := SX.row_slv hs (j := 0) rfl
                replace hs := hs.rot (L1 := [_])
                refine Z.lb 1 rfl ?_
                refine Z.lnil ?_
                refine Z.only [1, 5, 6, 10] rfl ?_
                refine Z.nthen ?_
                refine Z.seq ?_
                refine Z.region ?_
                refine Z.lb 1 rfl ?_
                refine Z.le rfl trivial ?_
                refine Z.ZO.call rfl rfl (by rfl) rfl rfl Try.call16 rfl (wputbytes_any g5 _ sv bs Ao _ co bl _ (hs.lend (L1 := WrL _ _ _ _)) (Z.row_lentv (L1 := WrL _ _ _ _) hs (j := 1) rfl) hm (by omega) (by omega) hbl) ?_
                rintro v13_1 w13_1 ⟨sv2, rfl, hz⟩
                replace hs := hs.regain (L1 := WrL _ _ _ _) hz
                refine Z.lb 1 rfl ?_
                refine Z.lnil ?_
                refine Z.only [1, 5, 6, 10, 11] rfl ?_
                refine Z.nthen ?_
                refine Z.seq ?_
                refine Z.region ?_
                refine Z.lb 2 rfl ?_
                obtain ⟨Ab, cb, rfl, -, -, -⟩ := SX.row_slv hs (j := 2) rfl
                refine Z.le rfl trivial ?_
                refine Z.ZO.call rfl rfl (by rfl) rfl rfl Try.call17 rfl (refputbytes Ab B _ cb m d bs bl _ (SX.row_slB hs (j := 2) rfl) rfl (by omega) (hy.st hs) hm (by omega) hbl) ?_
                rintro v14_2 w14_2 hy2
                replace hs : SX.St w [] w14_2 (WbL g5 29 sv2 v14_2 (bs ++ unb bl) ++ [SX.Ent.row (.slice Ao m co) 5 1 m (ints .u8 bl)]) := by
                  have e : (bs ++ unb bl).length = bs.length + m * 8 := by rw [List.length_append, unb_length, hm]
                  unfold WbL rowB
                  rw [e]
                  exact (hs.call hy2).sel [1, 2, 0, 4] (by decide)
                refine Z.lb 1 rfl ?_
                refine Z.lnil ?_
                refine Z.only [5, 6, 10, 11] rfl ?_
                refine Z.nthen ?_
                refine Z.seq ?_
                refine Z.seq ?_
                refine Z.region ?_
                refine Z.lb 1 rfl ?_
                refine Z.lnil ?_
                refine Z.only [5, 6, 10, 11, 12] rfl ?_
                refine Z.nthen ?_
                refine Z.block ?_
                refine Z.loopk (ι := Nat × List Int) [5, 6, 10, 11] rfl (fun k => [(12, [], .int .i64 (k.1 : Int))]) (fun k wr => k.1 ≤ m ∧ k.2.length = m ∧ SX.St w [] wr (WbL g5 29 sv2 v14_2 (bs ++ unb bl) ++ [SX.Ent.row (.slice Ao m co) 5 1 m (ints .u8 k.2)])) (fun k => m - k.1) (0, bl) (by refine ⟨?_, trivial⟩ <;> (first | rfl | (refine Z.lookv rfl ?_; simp; done) | (refine Z.lookv rfl ?_; simp; omega))) ⟨by omega, hm, hs⟩ ?_
                clear hs
                rintro ⟨k, bl1⟩ w2 ⟨hkm, hbm, hs⟩
                refine Z.only [5, 6, 10, 11, 12] rfl ?_
                dsimp only at hs
                dsimp only at hkm hbm
                simp only [WbL, WrL, List.cons_append, List.nil_append] at hs
                refine Z.seq ?_
                refine Z.seq ?_
                refine Z.region ?_
                refine Z.lb 2 rfl ?_
                refine Z.l rfl rfl (by rfl) (Z.keepS hs) (Z.Yd.lenS rfl Try.underlying25) ?_
                refine Z.lb 1 rfl ?_
                refine Z.lnil ?_
                refine Z.only [5, 6, 10, 11, 12, 53] rfl ?_
                refine Z.nthen ?_
                refine Z.cond rfl (fun hc16 => ?_) (fun hc16 => ?_)
                · first
                    | (exfalso; simp at hc16 <;> omega)
                    | (
                      (try simp at hc16)
                      obtain ⟨go, co', e, -, -⟩ := row_form (j := 3) hs rfl (by omega)
                      simp only [Value.slice.injEq, true_and] at e
                      obtain ⟨rfl, rfl⟩ := e
                      refine Z.skip ?_
                      refine Z.nthen ?_
                      refine Z.seq ?_
                      refine Z.block ?_
                      refine Z.region ?_
                      refine Z.lb 2 rfl ?_
                      refine Z.l rfl rfl (by rfl) (Z.keepS hs) (Z.Yd.elem rfl rfl Try.underlying25 Try.sizeOf5 (fun hG => ⟨(by first | omega | (have hG' := Z.gh rfl hG; simp at hG'; omega)), (by first | omega | (have hG' := Z.gh rfl hG; simp at hG'; omega))⟩)) ?_
                      refine Z.l rfl rfl (by rfl) (Z.keepS hs) (by first | exact Z.Yd.load rfl Try.isAgg5 (fun hG => Z.cellR (by first | ((repeat (first | exact List.mem_cons_self | refine List.mem_cons_of_mem _ ?_ | refine List.mem_append_right _ ?_)); done) | fail) (Z.ints_at (by first | omega | (have hG' := Z.gh rfl hG; simp at hG'; omega)) (by first | omega | (have hG' := Z.gh rfl hG; simp at hG'; omega)))) | exact Z.Yd.load rfl Try.isAgg5 (fun hG => Z.cellXi (by assumption) (by first | omega | (have hG' := Z.gh rfl hG; simp at hG'; omega)) (by first | omega | (have hG' := Z.gh rfl hG; simp at hG'; omega))) | exact Z.Yd.load rfl Try.isAgg5 (fun hG => Z.cellS (by assumption) rfl (by first | omega | (have hG' := Z.gh rfl hG; simp at hG'; omega)) (by first | omega | (have hG' := Z.gh rfl hG; simp at hG'; omega))) | fail "load 18.3") ?_
                      refine Z.l rfl rfl (by rfl) (Z.keepS hs) (Z.Yd.add rfl rfl (fun _ => rfl)) ?_
                      refine Z.l rfl rfl (by rfl) (Z.keepS hs) (Z.Yd.elem rfl rfl Try.underlying25 Try.sizeOf5 (fun hG => ⟨(by first | omega | (have hG' := Z.gh rfl hG; simp at hG'; omega)), (by first | omega | (have hG' := Z.gh rfl hG; simp at hG'; omega))⟩)) ?_
                      refine Z.le rfl trivial ?_
                      first | refine Z.ZO.store rfl rfl hs Try.sizeOf5 rfl rfl rfl (by first | exact SX.at0 | exact SX.at1 | exact SX.at2 | exact SX.at3 | exact SX.at4 | exact SX.at5 | exact Z.at6 | exact Z.at7 | exact Z.at8 | exact Z.at9 | exact Z.at10 | exact Z.at11 | exact Z.at12) (by simp) ?_ | refine Z.ZO.storeR rfl rfl hs Try.sizeOf5 rfl rfl rfl (by first | exact SX.at0 | exact SX.at1 | exact SX.at2 | exact SX.at3 | exact SX.at4 | exact SX.at5 | exact Z.at6 | exact Z.at7 | exact Z.at8 | exact Z.at9 | exact Z.at10 | exact Z.at11 | exact Z.at12) (by first | omega | (simp [ints_length]; done) | (simp [ints_length]; omega)) ?_
                      clear hs; intro ws hs
                      simp only [Nat.zero_add, Nat.add_zero, Nat.reduceAdd, List.set_cons_zero, List.set_cons_succ, List.setIfInBounds_toArray] at hs
                      refine Z.lnil ?_
                      refine Z.only [5, 6, 10, 11, 12] rfl ?_
                      refine Z.nblock ?_
                      refine Z.nthen ?_
                      refine Z.region ?_
                      refine Z.lb 1 rfl ?_
                      refine Z.l rfl rfl (by rfl) (Z.keepS hs) (Z.Yd.add rfl rfl (fun hG => Z.wi64 (by first | omega | (have hG' := Z.gh rfl hG; simp at hG'; omega)))) ?_
                      refine Z.lb 1 rfl ?_
                      refine Z.lnil ?_
                      refine Z.only [5, 6, 10, 11, 12] rfl ?_
                      refine Z.nthen ?_
                      rw [ints_set] at hs
                      exact Z.again (k + 1, _) (by refine ⟨?_, ?_, ?_, ?_, ?_, trivial⟩ <;> (first | rfl | (refine Z.lookv rfl ?_; simp; done) | (refine Z.lookv rfl ?_; simp; omega))) ⟨by simp only; omega, by simpa using hbm, hs⟩ (by simp only; omega)
                      )
                · first
                    | (exfalso; simp at hc16 <;> omega)
                    | (
                      (try simp at hc16)
                      refine Z.exit ?_
                      refine Z.xthen ?_
                      refine Z.xthen ?_
                      refine Z.xblock ?_
                      refine Z.nthen ?_
                      refine Z.seq ?_
                      refine Z.region ?_
                      replace hs : SX.St w [] _ (WbL g5 29 sv2 v14_2 (bs ++ unb bl)) := hs.sel [0, 1, 2] (by decide)
                      refine Z.le rfl trivial ?_
                      refine Z.ZO.call rfl rfl (by rfl) rfl rfl Try.call14 rfl (wbytes_any g5 _ sv2 _ _ (hs.lend (L1 := WrL _ _ _ _)) (by simp [unb_length]; omega)) ?_
                      rintro v19_0 w19_0 hz
                      replace hs := hs.regain (L1 := WrL _ _ _ _) hz
                      replace hs : SX.St w [] w19_0 (WbL g5 29 sv2 v14_2 (bs ++ unb bl) ++ [rowP v19_0 (bs ++ unb bl)]) := hs.sel [1, 2, 3, 0] (by decide)
                      obtain ⟨Ax, cx, rfl, -, -, -⟩ := SX.row_slv hs (j := 3) rfl
                      obtain ⟨np, hnp⟩ : ∃ np, np = (pk (bs ++ unb bl)).length := ⟨_, rfl⟩
                      have hnpb : np ≤ 100000 := by rw [hnp, pk_length]; simp [unb_length]; omega
                      unfold rowP at hs
                      rw [← hnp] at hs ⊢
                      refine Z.lb 1 rfl ?_
                      refine Z.lnil ?_
                      refine Z.only [5, 6, 11, 13] rfl ?_
                      refine Z.nthen ?_
                      refine Z.seq ?_
                      refine Z.seq ?_
                      refine Z.region ?_
                      refine Z.lb 1 rfl ?_
                      refine Z.lnil ?_
                      refine Z.only [5, 6, 11, 13, 14] rfl ?_
                      refine Z.nthen ?_
                      refine Z.block ?_
                      refine Z.loopk (ι := Nat × List Int) [5, 6, 11, 13] rfl (fun k => [(14, [], .int .i64 (k.1 : Int))]) (fun k wr => k.1 ≤ np ∧ k.2.length = np ∧ SX.St w [] wr (WbL g5 29 sv2 v14_2 (bs ++ unb bl) ++ [SX.Ent.row (.slice Ax np cx) 5 1 np (ints .u8 k.2)])) (fun k => np - k.1) (0, pk (bs ++ unb bl)) (by refine ⟨?_, trivial⟩ <;> (first | rfl | (refine Z.lookv rfl ?_; simp; done) | (refine Z.lookv rfl ?_; simp; omega))) ⟨by omega, hnp.symm, hs⟩ ?_
                      clear hs
                      rintro ⟨k, xl⟩ w3 ⟨hkx, hxm, hs⟩
                      refine Z.only [5, 6, 11, 13, 14] rfl ?_
                      dsimp only at hs
                      dsimp only at hkx hxm
                      simp only [WbL, WrL, List.cons_append, List.nil_append] at hs
                      refine Z.seq ?_
                      refine Z.seq ?_
                      refine Z.region ?_
                      refine Z.lb 2 rfl ?_
                      refine Z.l rfl rfl (by rfl) (Z.keepS hs) (Z.Yd.lenS rfl Try.underlying25) ?_
                      refine Z.lb 1 rfl ?_
                      refine Z.lnil ?_
                      refine Z.only [5, 6, 11, 13, 14, 66] rfl ?_
                      refine Z.nthen ?_
                      refine Z.cond rfl (fun hc21 => ?_) (fun hc21 => ?_)
                      · first
                          | (exfalso; simp at hc21 <;> omega)
                          | (
                            (try simp at hc21)
                            obtain ⟨gx, cx', e, -, -⟩ := row_form (j := 3) hs rfl (by omega)
                            simp only [Value.slice.injEq, true_and] at e
                            obtain ⟨rfl, rfl⟩ := e
                            refine Z.skip ?_
                            refine Z.nthen ?_
                            refine Z.seq ?_
                            refine Z.block ?_
                            refine Z.region ?_
                            refine Z.lb 2 rfl ?_
                            refine Z.l rfl rfl (by rfl) (Z.keepS hs) (Z.Yd.elem rfl rfl Try.underlying25 Try.sizeOf5 (fun hG => ⟨(by first | omega | (have hG' := Z.gh rfl hG; simp at hG'; omega)), (by first | omega | (have hG' := Z.gh rfl hG; simp at hG'; omega))⟩)) ?_
                            refine Z.l rfl rfl (by rfl) (Z.keepS hs) (by first | exact Z.Yd.load rfl Try.isAgg5 (fun hG => Z.cellR (by first | ((repeat (first | exact List.mem_cons_self | refine List.mem_cons_of_mem _ ?_ | refine List.mem_append_right _ ?_)); done) | fail) (Z.ints_at (by first | omega | (have hG' := Z.gh rfl hG; simp at hG'; omega)) (by first | omega | (have hG' := Z.gh rfl hG; simp at hG'; omega)))) | exact Z.Yd.load rfl Try.isAgg5 (fun hG => Z.cellXi (by assumption) (by first | omega | (have hG' := Z.gh rfl hG; simp at hG'; omega)) (by first | omega | (have hG' := Z.gh rfl hG; simp at hG'; omega))) | exact Z.Yd.load rfl Try.isAgg5 (fun hG => Z.cellS (by assumption) rfl (by first | omega | (have hG' := Z.gh rfl hG; simp at hG'; omega)) (by first | omega | (have hG' := Z.gh rfl hG; simp at hG'; omega))) | fail "load 23.3") ?_
                            refine Z.l rfl rfl (by rfl) (Z.keepS hs) (Z.Yd.add rfl rfl (fun _ => rfl)) ?_
                            refine Z.l rfl rfl (by rfl) (Z.keepS hs) (Z.Yd.elem rfl rfl Try.underlying25 Try.sizeOf5 (fun hG => ⟨(by first | omega | (have hG' := Z.gh rfl hG; simp at hG'; omega)), (by first | omega | (have hG' := Z.gh rfl hG; simp at hG'; omega))⟩)) ?_
                            refine Z.le rfl trivial ?_
                            first | refine Z.ZO.store rfl rfl hs Try.sizeOf5 rfl rfl rfl (by first | exact SX.at0 | exact SX.at1 | exact SX.at2 | exact SX.at3 | exact SX.at4 | exact SX.at5 | exact Z.at6 | exact Z.at7 | exact Z.at8 | exact Z.at9 | exact Z.at10 | exact Z.at11 | exact Z.at12) (by simp) ?_ | refine Z.ZO.storeR rfl rfl hs Try.sizeOf5 rfl rfl rfl (by first | exact SX.at0 | exact SX.at1 | exact SX.at2 | exact SX.at3 | exact SX.at4 | exact SX.at5 | exact Z.at6 | exact Z.at7 | exact Z.at8 | exact Z.at9 | exact Z.at10 | exact Z.at11 | exact Z.at12) (by first | omega | (simp [ints_length]; done) | (simp [ints_length]; omega)) ?_
                            clear hs; intro ws hs
                            simp only [Nat.zero_add, Nat.add_zero, Nat.reduceAdd, List.set_cons_zero, List.set_cons_succ, List.setIfInBounds_toArray] at hs
                            refine Z.lnil ?_
                            refine Z.only [5, 6, 11, 13, 14] rfl ?_
                            refine Z.nblock ?_
                            refine Z.nthen ?_
                            refine Z.region ?_
                            refine Z.lb 1 rfl ?_
                            refine Z.l rfl rfl (by rfl) (Z.keepS hs) (Z.Yd.add rfl rfl (fun hG => Z.wi64 (by first | omega | (have hG' := Z.gh rfl hG; simp at hG'; omega)))) ?_
                            refine Z.lb 1 rfl ?_
                            refine Z.lnil ?_
                            refine Z.only [5, 6, 11, 13, 14] rfl ?_
                            refine Z.nthen ?_
                            rw [ints_set] at hs
                            exact Z.again (k + 1, _) (by refine ⟨?_, ?_, ?_, ?_, ?_, trivial⟩ <;> (first | rfl | (refine Z.lookv rfl ?_; simp; done) | (refine Z.lookv rfl ?_; simp; omega))) ⟨by simp only; omega, by simpa using hxm, hs⟩ (by simp only; omega)
                            )
                      · first
                          | (exfalso; simp at hc21 <;> omega)
                          | (
                            (try simp at hc21)
                            refine Z.exit ?_
                            refine Z.xthen ?_
                            refine Z.xthen ?_
                            refine Z.xblock ?_
                            refine Z.nthen ?_
                            refine Z.seq ?_
                            refine Z.region ?_
                            refine Z.lb 1 rfl ?_
                            replace hs : SX.St w [] _ (WbL g5 29 sv2 v14_2 (bs ++ unb bl)) := hs.sel [0, 1, 2] (by decide)
                            obtain ⟨Ab2, cb2, rfl, -, -, -⟩ := SX.row_slv hs (j := 2) rfl
                            refine Z.le rfl trivial ?_
                            refine Z.ZO.call rfl rfl (by rfl) rfl rfl Try.call18 rfl (num_any _ _) ?_
                            rintro v24_1 w24_1 ⟨rfl, hy3⟩
                            replace hs := hs.call hy3
                            refine Z.lb 2 rfl ?_
                            refine Z.yes (s := 78) (b := true) rfl ((by decide)) rfl ?_
                            refine Z.le rfl (by exact ⟨rfl, trivial⟩) ?_
                            refine Z.ZO.call rfl rfl (by rfl) rfl rfl Try.call14 rfl (wbytes_any g5 _ sv2 _ _ (hs.lend (L1 := WrL _ _ _ _)) (by simp [unb_length]; omega)) ?_
                            rintro v24_4 w24_4 hz
                            replace hs := hs.regain (L1 := WrL _ _ _ _) hz
                            obtain ⟨Aw, cw, rfl, -, -, -⟩ := SX.row_slv hs (j := 0) rfl
                            refine Z.lb 1 rfl ?_
                            refine Z.yes (s := 78) (b := true) rfl rfl rfl ?_
                            refine Z.le rfl (by exact ⟨rfl, trivial⟩) ?_
                            refine Z.ZO.call rfl rfl (by rfl) rfl rfl Try.call15 rfl (refbytes Ab2 _ cb2 (bs ++ unb bl) _ (SX.row_slB hs (j := 3) rfl) rfl (by simp [unb_length]; omega)) ?_
                            rintro v24_6 w24_6 hy4
                            replace hs := hs.call hy4
                            obtain ⟨Ar, cr, rfl, -, -, -⟩ := SX.row_slv hs (j := 0) rfl
                            refine Z.le rfl (by exact ⟨rfl, trivial⟩) ?_
                            refine Z.ZO.call rfl rfl (by rfl) rfl rfl Try.call13 rfl (same_any Aw Ar _ _ cw cr _ _ _ (SX.row_slB hs (j := 1) rfl) (SX.row_slB hs (j := 0) rfl) rfl rfl (pk_bd _) (pk_bd _)) ?_
                            rintro v24_7 w24_7 ⟨rfl, hy5⟩
                            replace hs := hs.call hy5
                            refine Z.l rfl rfl (by rfl) (Z.keepS hs) (Z.Yd.pickT rfl rfl) ?_
                            refine Z.lb 1 rfl ?_
                            refine Z.yes (s := 84) (b := true) rfl ((by simp)) rfl ?_
                            refine Z.le rfl (by exact ⟨rfl, trivial⟩) ?_
                            refine Z.ZO.call rfl rfl (by rfl) rfl rfl Try.call10 rfl (works_any _) ?_
                            rintro v24_10 w24_10 ⟨rfl, hy6⟩
                            replace hs := hs.call hy6
                            refine Z.l rfl rfl (by rfl) (Z.keepS hs) (Z.Yd.pickT rfl rfl) ?_
                            refine Z.lb 1 rfl ?_
                            refine Z.lnil ?_
                            refine Z.only [4] rfl ?_
                            refine Z.nthen ?_
                            refine Z.ret ?_
                            -- ret#2
                            refine Z.out1 (by exact ⟨rfl, trivial⟩) ?_
                            exact ⟨_, rfl, rfl, hs.sub (List.nil_sublist _)⟩
                            )
                      )
                )
          )
  · refine Z.yes (s := 18) (b := false) rfl hsp18 rfl ?_
    (try simp at hsp18)
    refine Z.lb 1 rfl ?_
    refine Z.l rfl rfl (by rfl) (Z.keepS hs) (Z.Yd.lenS rfl Try.underlying25) ?_
    refine Z.lb 1 rfl ?_
    refine Z.yes (s := 18) (b := false) rfl rfl rfl ?_
    refine Z.l rfl rfl (by rfl) (Z.keepS hs) (Z.Yd.pickF rfl rfl) ?_
    refine Z.lnil ?_
    refine Z.only [0, 1, 22] rfl ?_
    refine Z.nthen ?_
    refine Z.cond rfl (fun hc1 => ?_) (fun hc1 => ?_)
    · first
        | (exfalso; simp at hc1 <;> omega)
        | (
          (try simp at hc1)
          refine Z.seq ?_
          refine Z.region ?_
          refine Z.le rfl trivial ?_
          refine Z.ZO.call rfl rfl (by rfl) rfl rfl Try.call10 rfl (works_any _) ?_
          rintro v2_0 w2_0 ⟨rfl, hy1⟩
          replace hs := hs.call hy1
          refine Z.lb 1 rfl ?_
          refine Z.lnil ?_
          refine Z.only [4] rfl ?_
          refine Z.nthen ?_
          refine Z.ret ?_
          repeat (first | refine Z.rthen ?_ | refine Z.rblock ?_ | refine Z.rscope ?_)
          -- ret#3
          refine Z.out1 (by exact ⟨rfl, trivial⟩) ?_
          exact ⟨_, rfl, rfl, hs.sub (List.nil_sublist _)⟩
          )
    · first
        | (exfalso; simp at hc1 <;> omega)
        | (
          (try simp at hc1)
          refine Z.skip ?_
          refine Z.nthen ?_
          refine Z.seq ?_
          refine Z.region ?_
          refine Z.le rfl trivial ?_
          refine Z.ZO.alloc rfl rfl (by rfl) Try.zeroValue29 rfl hs ?_
          clear hs; intro g5 w5 hs
          refine Z.lnil ?_
          refine Z.only [0, 1, 5] rfl ?_
          have hc1 : fewA l = true := by simpa using hsp18
          have h40b : m ≤ 40 := by omega
          replace hs := WrL_start hs
          refine Z.nthen ?_
          refine Z.seq ?_
          refine Z.region ?_
          refine Z.lb 1 rfl ?_
          refine Z.lnil ?_
          refine Z.only [0, 1, 5, 6] rfl ?_
          refine Z.nthen ?_
          refine Z.seq ?_
          refine Z.seq ?_
          refine Z.region ?_
          refine Z.lb 1 rfl ?_
          refine Z.lnil ?_
          refine Z.only [0, 1, 5, 6, 7] rfl ?_
          refine Z.nthen ?_
          refine Z.block ?_
          refine Z.loopk (ι := Nat × Value × Value) [0, 1, 5] rfl (fun k => [(6, [], k.2.2), (7, [], .int .i64 (k.1 : Int))]) (fun k wr => k.1 ≤ n ∧ SX.St w [] wr (WbL g5 29 k.2.1 k.2.2 (actsB (l.take k.1)))) (fun k => n - k.1) (0, .slice none 0 0, .slice none 0 0) (by refine ⟨?_, ?_, trivial⟩ <;> (first | rfl | (refine Z.lookv rfl ?_; simp; done) | (refine Z.lookv rfl ?_; simp; omega))) ⟨by omega, (hs.nil 5 1).sel [1, 2, 0] (by decide)⟩ ?_
          clear hs
          rintro ⟨k, sv, sb⟩ w1 ⟨hkn, hs⟩
          refine Z.only [0, 1, 5, 6, 7] rfl ?_
          dsimp only at hs
          refine Z.seq ?_
          refine Z.seq ?_
          refine Z.region ?_
          refine Z.lb 2 rfl ?_
          refine Z.l rfl rfl (by rfl) (Z.keepS hs) (Z.Yd.lenS rfl Try.underlying22) ?_
          refine Z.lb 1 rfl ?_
          refine Z.lnil ?_
          refine Z.only [0, 1, 5, 6, 7, 27] rfl ?_
          refine Z.nthen ?_
          refine Z.cond rfl (fun hc6 => ?_) (fun hc6 => ?_)
          · first
              | (exfalso; simp at hc6 <;> omega)
              | (
                (try simp at hc6)
                obtain ⟨b, off, rfl, hx⟩ := hx.some (by omega)
                obtain ⟨x, hf⟩ : ∃ x, l[k]? = some x := ⟨_, List.getElem?_eq_getElem (by omega)⟩
                have hgx := hg _ (List.mem_of_getElem? hf)
                have h4 := (few_at hc1).2 _ (List.mem_of_getElem? hf)
                have hlen := actsB_length hc1 k (by omega)
                have h40 := (few_at hc1).1
                refine Z.skip ?_
                refine Z.nthen ?_
                refine Z.seq ?_
                refine Z.block ?_
                refine Z.seq ?_
                refine Z.region ?_
                refine Z.lb 3 rfl ?_
                refine Z.l rfl rfl (by rfl) (Z.keepS hs) (Z.Yd.elem rfl rfl Try.underlying22 Try.sizeOf36 (fun hG => ⟨(by first | omega | (have hG' := Z.gh rfl hG; simp at hG'; omega)), (by first | omega | (have hG' := Z.gh rfl hG; simp at hG'; omega))⟩)) ?_
                refine Z.l rfl rfl (by rfl) (Z.keepS hs) (Z.Yd.loadA _ rfl Try.isAgg36 (fun _ => Z.cellsX (encA x) hx encA_length hf rfl) (by exact Try.sizeOf36)) ?_
                refine Z.le rfl trivial ?_
                refine Z.ZO.call rfl rfl (by rfl) rfl rfl Try.call11 rfl (act_any g5 _ sv sb (actsB (l.take k)) x _ hs.all (by omega) hgx (hgx.bs.sx.all hs) (hgx.fs.sx.all hs) h4.1 h4.2) ?_
                rintro v8_5 w8_5 ⟨sv2, sb2, rfl, hz⟩
                replace hs := hs.regainAll hz
                rw [← actsB_snoc hf] at hs
                refine Z.lb 5 rfl ?_
                refine Z.lnil ?_
                refine Z.only [0, 1, 5, 7, 8, 9] rfl ?_
                refine Z.nthen ?_
                refine Z.seq ?_
                refine Z.region ?_
                refine Z.lb 2 rfl ?_
                refine Z.lnil ?_
                refine Z.only [0, 1, 5, 6, 7, 9] rfl ?_
                refine Z.nthen ?_
                refine Z.seq ?_
                refine Z.region ?_
                refine Z.lb 2 rfl ?_
                refine Z.lnil ?_
                refine Z.only [0, 1, 5, 6, 7, 41] rfl ?_
                refine Z.nthen ?_
                refine Z.cond rfl (fun hc10 => ?_) (fun hc10 => ?_)
                · first
                    | (exfalso; simp at hc10 <;> omega)
                    | (
                      (try simp at hc10)
                      refine Z.seq ?_
                      refine Z.region ?_
                      refine Z.lb 1 rfl ?_
                      refine Z.lnil ?_
                      refine Z.only [4] rfl ?_
                      refine Z.nthen ?_
                      refine Z.ret ?_
                      repeat (first | refine Z.rthen ?_ | refine Z.rblock ?_ | refine Z.rscope ?_)
                      -- ret#4
                      refine Z.out1 (by exact ⟨rfl, trivial⟩) ?_
                      exact ⟨_, rfl, rfl, hs.sub (List.nil_sublist _)⟩
                      )
                · first
                    | (exfalso; simp at hc10 <;> omega)
                    | (
                      (try simp at hc10)
                      refine Z.skip ?_
                      refine Z.nblock ?_
                      refine Z.nthen ?_
                      refine Z.region ?_
                      refine Z.lb 1 rfl ?_
                      refine Z.l rfl rfl (by rfl) (Z.keepS hs) (Z.Yd.add rfl rfl (fun hG => Z.wi64 (by first | omega | (have hG' := Z.gh rfl hG; simp at hG'; omega)))) ?_
                      refine Z.lb 1 rfl ?_
                      refine Z.lnil ?_
                      refine Z.only [0, 1, 5, 6, 7] rfl ?_
                      refine Z.nthen ?_
                      exact Z.again (k + 1, sv2, _) (by refine ⟨?_, ?_, ?_, ?_, ?_, trivial⟩ <;> (first | rfl | (refine Z.lookv rfl ?_; simp; done) | (refine Z.lookv rfl ?_; simp; omega))) ⟨by simp only; omega, hs⟩ (by simp only; omega)
                      )
                )
          · first
              | (exfalso; simp at hc6 <;> omega)
              | (
                (try simp at hc6)
                refine Z.exit ?_
                refine Z.xthen ?_
                refine Z.xthen ?_
                refine Z.xblock ?_
                refine Z.nthen ?_
                refine Z.seq ?_
                refine Z.region ?_
                obtain ⟨bs, hbs⟩ : ∃ bs, bs = actsB l := ⟨_, rfl⟩
                have hbl2 : bs.length ≤ 51200 := by
                  have h1 := actsB_length hc1 n (by omega)
                  have h2 := (few_at hc1).1
                  rw [List.take_of_length_le (by omega), ← hbs] at h1
                  omega
                obtain rfl : k = n := by omega
                rw [List.take_of_length_le (by omega), ← hbs] at hs
                refine Z.le rfl trivial ?_
                refine Z.ZO.empty rfl rfl (by rfl) Try.underlying25 Try.sizeOf5 hs ?_
                clear hs; intro g42 w42 hs
                refine Z.lb 1 rfl ?_
                refine Z.le rfl trivial ?_
                refine Z.ZO.appendG (i0 := Try.t5) (size := 1) (bytes := 1) rfl rfl (by rfl) hs Try.underlying25 (by kernel_rfl) rfl rfl rfl rfl (by decide) rfl rfl (by first | exact SX.at0 | exact SX.at1 | exact SX.at2 | exact SX.at3 | exact SX.at4 | exact SX.at5 | exact Z.at6 | exact Z.at7 | exact Z.at8 | exact Z.at9 | exact Z.at10 | exact Z.at11 | exact Z.at12) (hy.st hs) (by first | rfl | (simp [ints_length]; done) | (simp [ints_length]; omega)) (by first | exact Z.ints_one | simp [Value.oneCell']) (by unfold maxLen; omega) (by omega) ?_
                clear hs; intro v44 w44 hs
                simp only [List.set_cons_zero, List.set_cons_succ] at hs
                rw [List.nil_append, Nat.zero_add] at hs
                obtain ⟨Ao, co, rfl, -, -, -⟩ := SX.row_slv hs (j := 0) rfl
                replace hs := hs.rot (L1 := [_])
                refine Z.lb 1 rfl ?_
                refine Z.lnil ?_
                refine Z.only [1, 5, 6, 10] rfl ?_
                refine Z.nthen ?_
                refine Z.seq ?_
                refine Z.region ?_
                refine Z.lb 1 rfl ?_
                refine Z.le rfl trivial ?_
                refine Z.ZO.call rfl rfl (by rfl) rfl rfl Try.call16 rfl (wputbytes_any g5 _ sv bs Ao _ co bl _ (hs.lend (L1 := WrL _ _ _ _)) (Z.row_lentv (L1 := WrL _ _ _ _) hs (j := 1) rfl) hm (by omega) (by omega) hbl) ?_
                rintro v13_1 w13_1 ⟨sv2, rfl, hz⟩
                replace hs := hs.regain (L1 := WrL _ _ _ _) hz
                refine Z.lb 1 rfl ?_
                refine Z.lnil ?_
                refine Z.only [1, 5, 6, 10, 11] rfl ?_
                refine Z.nthen ?_
                refine Z.seq ?_
                refine Z.region ?_
                refine Z.lb 2 rfl ?_
                obtain ⟨Ab, cb, rfl, -, -, -⟩ := SX.row_slv hs (j := 2) rfl
                refine Z.le rfl trivial ?_
                refine Z.ZO.call rfl rfl (by rfl) rfl rfl Try.call17 rfl (refputbytes Ab B _ cb m d bs bl _ (SX.row_slB hs (j := 2) rfl) rfl (by omega) (hy.st hs) hm (by omega) hbl) ?_
                rintro v14_2 w14_2 hy2
                replace hs : SX.St w [] w14_2 (WbL g5 29 sv2 v14_2 (bs ++ unb bl) ++ [SX.Ent.row (.slice Ao m co) 5 1 m (ints .u8 bl)]) := by
                  have e : (bs ++ unb bl).length = bs.length + m * 8 := by rw [List.length_append, unb_length, hm]
                  unfold WbL rowB
                  rw [e]
                  exact (hs.call hy2).sel [1, 2, 0, 4] (by decide)
                refine Z.lb 1 rfl ?_
                refine Z.lnil ?_
                refine Z.only [5, 6, 10, 11] rfl ?_
                refine Z.nthen ?_
                refine Z.seq ?_
                refine Z.seq ?_
                refine Z.region ?_
                refine Z.lb 1 rfl ?_
                refine Z.lnil ?_
                refine Z.only [5, 6, 10, 11, 12] rfl ?_
                refine Z.nthen ?_
                refine Z.block ?_
                refine Z.loopk (ι := Nat × List Int) [5, 6, 10, 11] rfl (fun k => [(12, [], .int .i64 (k.1 : Int))]) (fun k wr => k.1 ≤ m ∧ k.2.length = m ∧ SX.St w [] wr (WbL g5 29 sv2 v14_2 (bs ++ unb bl) ++ [SX.Ent.row (.slice Ao m co) 5 1 m (ints .u8 k.2)])) (fun k => m - k.1) (0, bl) (by refine ⟨?_, trivial⟩ <;> (first | rfl | (refine Z.lookv rfl ?_; simp; done) | (refine Z.lookv rfl ?_; simp; omega))) ⟨by omega, hm, hs⟩ ?_
                clear hs
                rintro ⟨k, bl1⟩ w2 ⟨hkm, hbm, hs⟩
                refine Z.only [5, 6, 10, 11, 12] rfl ?_
                dsimp only at hs
                dsimp only at hkm hbm
                simp only [WbL, WrL, List.cons_append, List.nil_append] at hs
                refine Z.seq ?_
                refine Z.seq ?_
                refine Z.region ?_
                refine Z.lb 2 rfl ?_
                refine Z.l rfl rfl (by rfl) (Z.keepS hs) (Z.Yd.lenS rfl Try.underlying25) ?_
                refine Z.lb 1 rfl ?_
                refine Z.lnil ?_
                refine Z.only [5, 6, 10, 11, 12, 53] rfl ?_
                refine Z.nthen ?_
                refine Z.cond rfl (fun hc16 => ?_) (fun hc16 => ?_)
                · first
                    | (exfalso; simp at hc16 <;> omega)
                    | (
                      (try simp at hc16)
                      obtain ⟨go, co', e, -, -⟩ := row_form (j := 3) hs rfl (by omega)
                      simp only [Value.slice.injEq, true_and] at e
                      obtain ⟨rfl, rfl⟩ := e
                      refine Z.skip ?_
                      refine Z.nthen ?_
                      refine Z.seq ?_
                      refine Z.block ?_
                      refine Z.region ?_
                      refine Z.lb 2 rfl ?_
                      refine Z.l rfl rfl (by rfl) (Z.keepS hs) (Z.Yd.elem rfl rfl Try.underlying25 Try.sizeOf5 (fun hG => ⟨(by first | omega | (have hG' := Z.gh rfl hG; simp at hG'; omega)), (by first | omega | (have hG' := Z.gh rfl hG; simp at hG'; omega))⟩)) ?_
                      refine Z.l rfl rfl (by rfl) (Z.keepS hs) (by first | exact Z.Yd.load rfl Try.isAgg5 (fun hG => Z.cellR (by first | ((repeat (first | exact List.mem_cons_self | refine List.mem_cons_of_mem _ ?_ | refine List.mem_append_right _ ?_)); done) | fail) (Z.ints_at (by first | omega | (have hG' := Z.gh rfl hG; simp at hG'; omega)) (by first | omega | (have hG' := Z.gh rfl hG; simp at hG'; omega)))) | exact Z.Yd.load rfl Try.isAgg5 (fun hG => Z.cellXi (by assumption) (by first | omega | (have hG' := Z.gh rfl hG; simp at hG'; omega)) (by first | omega | (have hG' := Z.gh rfl hG; simp at hG'; omega))) | exact Z.Yd.load rfl Try.isAgg5 (fun hG => Z.cellS (by assumption) rfl (by first | omega | (have hG' := Z.gh rfl hG; simp at hG'; omega)) (by first | omega | (have hG' := Z.gh rfl hG; simp at hG'; omega))) | fail "load 18.3") ?_
                      refine Z.l rfl rfl (by rfl) (Z.keepS hs) (Z.Yd.add rfl rfl (fun _ => rfl)) ?_
                      refine Z.l rfl rfl (by rfl) (Z.keepS hs) (Z.Yd.elem rfl rfl Try.underlying25 Try.sizeOf5 (fun hG => ⟨(by first | omega | (have hG' := Z.gh rfl hG; simp at hG'; omega)), (by first | omega | (have hG' := Z.gh rfl hG; simp at hG'; omega))⟩)) ?_
                      refine Z.le rfl trivial ?_
                      first | refine Z.ZO.store rfl rfl hs Try.sizeOf5 rfl rfl rfl (by first | exact SX.at0 | exact SX.at1 | exact SX.at2 | exact SX.at3 | exact SX.at4 | exact SX.at5 | exact Z.at6 | exact Z.at7 | exact Z.at8 | exact Z.at9 | exact Z.at10 | exact Z.at11 | exact Z.at12) (by simp) ?_ | refine Z.ZO.storeR rfl rfl hs Try.sizeOf5 rfl rfl rfl (by first | exact SX.at0 | exact SX.at1 | exact SX.at2 | exact SX.at3 | exact SX.at4 | exact SX.at5 | exact Z.at6 | exact Z.at7 | exact Z.at8 | exact Z.at9 | exact Z.at10 | exact Z.at11 | exact Z.at12) (by first | omega | (simp [ints_length]; done) | (simp [ints_length]; omega)) ?_
                      clear hs; intro ws hs
                      simp only [Nat.zero_add, Nat.add_zero, Nat.reduceAdd, List.set_cons_zero, List.set_cons_succ, List.setIfInBounds_toArray] at hs
                      refine Z.lnil ?_
                      refine Z.only [5, 6, 10, 11, 12] rfl ?_
                      refine Z.nblock ?_
                      refine Z.nthen ?_
                      refine Z.region ?_
                      refine Z.lb 1 rfl ?_
                      refine Z.l rfl rfl (by rfl) (Z.keepS hs) (Z.Yd.add rfl rfl (fun hG => Z.wi64 (by first | omega | (have hG' := Z.gh rfl hG; simp at hG'; omega)))) ?_
                      refine Z.lb 1 rfl ?_
                      refine Z.lnil ?_
                      refine Z.only [5, 6, 10, 11, 12] rfl ?_
                      refine Z.nthen ?_
                      rw [ints_set] at hs
                      exact Z.again (k + 1, _) (by refine ⟨?_, ?_, ?_, ?_, ?_, trivial⟩ <;> (first | rfl | (refine Z.lookv rfl ?_; simp; done) | (refine Z.lookv rfl ?_; simp; omega))) ⟨by simp only; omega, by simpa using hbm, hs⟩ (by simp only; omega)
                      )
                · first
                    | (exfalso; simp at hc16 <;> omega)
                    | (
                      (try simp at hc16)
                      refine Z.exit ?_
                      refine Z.xthen ?_
                      refine Z.xthen ?_
                      refine Z.xblock ?_
                      refine Z.nthen ?_
                      refine Z.seq ?_
                      refine Z.region ?_
                      replace hs : SX.St w [] _ (WbL g5 29 sv2 v14_2 (bs ++ unb bl)) := hs.sel [0, 1, 2] (by decide)
                      refine Z.le rfl trivial ?_
                      refine Z.ZO.call rfl rfl (by rfl) rfl rfl Try.call14 rfl (wbytes_any g5 _ sv2 _ _ (hs.lend (L1 := WrL _ _ _ _)) (by simp [unb_length]; omega)) ?_
                      rintro v19_0 w19_0 hz
                      replace hs := hs.regain (L1 := WrL _ _ _ _) hz
                      replace hs : SX.St w [] w19_0 (WbL g5 29 sv2 v14_2 (bs ++ unb bl) ++ [rowP v19_0 (bs ++ unb bl)]) := hs.sel [1, 2, 3, 0] (by decide)
                      obtain ⟨Ax, cx, rfl, -, -, -⟩ := SX.row_slv hs (j := 3) rfl
                      obtain ⟨np, hnp⟩ : ∃ np, np = (pk (bs ++ unb bl)).length := ⟨_, rfl⟩
                      have hnpb : np ≤ 100000 := by rw [hnp, pk_length]; simp [unb_length]; omega
                      unfold rowP at hs
                      rw [← hnp] at hs ⊢
                      refine Z.lb 1 rfl ?_
                      refine Z.lnil ?_
                      refine Z.only [5, 6, 11, 13] rfl ?_
                      refine Z.nthen ?_
                      refine Z.seq ?_
                      refine Z.seq ?_
                      refine Z.region ?_
                      refine Z.lb 1 rfl ?_
                      refine Z.lnil ?_
                      refine Z.only [5, 6, 11, 13, 14] rfl ?_
                      refine Z.nthen ?_
                      refine Z.block ?_
                      refine Z.loopk (ι := Nat × List Int) [5, 6, 11, 13] rfl (fun k => [(14, [], .int .i64 (k.1 : Int))]) (fun k wr => k.1 ≤ np ∧ k.2.length = np ∧ SX.St w [] wr (WbL g5 29 sv2 v14_2 (bs ++ unb bl) ++ [SX.Ent.row (.slice Ax np cx) 5 1 np (ints .u8 k.2)])) (fun k => np - k.1) (0, pk (bs ++ unb bl)) (by refine ⟨?_, trivial⟩ <;> (first | rfl | (refine Z.lookv rfl ?_; simp; done) | (refine Z.lookv rfl ?_; simp; omega))) ⟨by omega, hnp.symm, hs⟩ ?_
                      clear hs
                      rintro ⟨k, xl⟩ w3 ⟨hkx, hxm, hs⟩
                      refine Z.only [5, 6, 11, 13, 14] rfl ?_
                      dsimp only at hs
                      dsimp only at hkx hxm
                      simp only [WbL, WrL, List.cons_append, List.nil_append] at hs
                      refine Z.seq ?_
                      refine Z.seq ?_
                      refine Z.region ?_
                      refine Z.lb 2 rfl ?_
                      refine Z.l rfl rfl (by rfl) (Z.keepS hs) (Z.Yd.lenS rfl Try.underlying25) ?_
                      refine Z.lb 1 rfl ?_
                      refine Z.lnil ?_
                      refine Z.only [5, 6, 11, 13, 14, 66] rfl ?_
                      refine Z.nthen ?_
                      refine Z.cond rfl (fun hc21 => ?_) (fun hc21 => ?_)
                      · first
                          | (exfalso; simp at hc21 <;> omega)
                          | (
                            (try simp at hc21)
                            obtain ⟨gx, cx', e, -, -⟩ := row_form (j := 3) hs rfl (by omega)
                            simp only [Value.slice.injEq, true_and] at e
                            obtain ⟨rfl, rfl⟩ := e
                            refine Z.skip ?_
                            refine Z.nthen ?_
                            refine Z.seq ?_
                            refine Z.block ?_
                            refine Z.region ?_
                            refine Z.lb 2 rfl ?_
                            refine Z.l rfl rfl (by rfl) (Z.keepS hs) (Z.Yd.elem rfl rfl Try.underlying25 Try.sizeOf5 (fun hG => ⟨(by first | omega | (have hG' := Z.gh rfl hG; simp at hG'; omega)), (by first | omega | (have hG' := Z.gh rfl hG; simp at hG'; omega))⟩)) ?_
                            refine Z.l rfl rfl (by rfl) (Z.keepS hs) (by first | exact Z.Yd.load rfl Try.isAgg5 (fun hG => Z.cellR (by first | ((repeat (first | exact List.mem_cons_self | refine List.mem_cons_of_mem _ ?_ | refine List.mem_append_right _ ?_)); done) | fail) (Z.ints_at (by first | omega | (have hG' := Z.gh rfl hG; simp at hG'; omega)) (by first | omega | (have hG' := Z.gh rfl hG; simp at hG'; omega)))) | exact Z.Yd.load rfl Try.isAgg5 (fun hG => Z.cellXi (by assumption) (by first | omega | (have hG' := Z.gh rfl hG; simp at hG'; omega)) (by first | omega | (have hG' := Z.gh rfl hG; simp at hG'; omega))) | exact Z.Yd.load rfl Try.isAgg5 (fun hG => Z.cellS (by assumption) rfl (by first | omega | (have hG' := Z.gh rfl hG; simp at hG'; omega)) (by first | omega | (have hG' := Z.gh rfl hG; simp at hG'; omega))) | fail "load 23.3") ?_
                            refine Z.l rfl rfl (by rfl) (Z.keepS hs) (Z.Yd.add rfl rfl (fun _ => rfl)) ?_
                            refine Z.l rfl rfl (by rfl) (Z.keepS hs) (Z.Yd.elem rfl rfl Try.underlying25 Try.sizeOf5 (fun hG => ⟨(by first | omega | (have hG' := Z.gh rfl hG; simp at hG'; omega)), (by first | omega | (have hG' := Z.gh rfl hG; simp at hG'; omega))⟩)) ?_
                            refine Z.le rfl trivial ?_
                            first | refine Z.ZO.store rfl rfl hs Try.sizeOf5 rfl rfl rfl (by first | exact SX.at0 | exact SX.at1 | exact SX.at2 | exact SX.at3 | exact SX.at4 | exact SX.at5 | exact Z.at6 | exact Z.at7 | exact Z.at8 | exact Z.at9 | exact Z.at10 | exact Z.at11 | exact Z.at12) (by simp) ?_ | refine Z.ZO.storeR rfl rfl hs Try.sizeOf5 rfl rfl rfl (by first | exact SX.at0 | exact SX.at1 | exact SX.at2 | exact SX.at3 | exact SX.at4 | exact SX.at5 | exact Z.at6 | exact Z.at7 | exact Z.at8 | exact Z.at9 | exact Z.at10 | exact Z.at11 | exact Z.at12) (by first | omega | (simp [ints_length]; done) | (simp [ints_length]; omega)) ?_
                            clear hs; intro ws hs
                            simp only [Nat.zero_add, Nat.add_zero, Nat.reduceAdd, List.set_cons_zero, List.set_cons_succ, List.setIfInBounds_toArray] at hs
                            refine Z.lnil ?_
                            refine Z.only [5, 6, 11, 13, 14] rfl ?_
                            refine Z.nblock ?_
                            refine Z.nthen ?_
                            refine Z.region ?_
                            refine Z.lb 1 rfl ?_
                            refine Z.l rfl rfl (by rfl) (Z.keepS hs) (Z.Yd.add rfl rfl (fun hG => Z.wi64 (by first | omega | (have hG' := Z.gh rfl hG; simp at hG'; omega)))) ?_
                            refine Z.lb 1 rfl ?_
                            refine Z.lnil ?_
                            refine Z.only [5, 6, 11, 13, 14] rfl ?_
                            refine Z.nthen ?_
                            rw [ints_set] at hs
                            exact Z.again (k + 1, _) (by refine ⟨?_, ?_, ?_, ?_, ?_, trivial⟩ <;> (first | rfl | (refine Z.lookv rfl ?_; simp; done) | (refine Z.lookv rfl ?_; simp; omega))) ⟨by simp only; omega, by simpa using hxm, hs⟩ (by simp only; omega)
                            )
                      · first
                          | (exfalso; simp at hc21 <;> omega)
                          | (
                            (try simp at hc21)
                            refine Z.exit ?_
                            refine Z.xthen ?_
                            refine Z.xthen ?_
                            refine Z.xblock ?_
                            refine Z.nthen ?_
                            refine Z.seq ?_
                            refine Z.region ?_
                            refine Z.lb 1 rfl ?_
                            replace hs : SX.St w [] _ (WbL g5 29 sv2 v14_2 (bs ++ unb bl)) := hs.sel [0, 1, 2] (by decide)
                            obtain ⟨Ab2, cb2, rfl, -, -, -⟩ := SX.row_slv hs (j := 2) rfl
                            refine Z.le rfl trivial ?_
                            refine Z.ZO.call rfl rfl (by rfl) rfl rfl Try.call18 rfl (num_any _ _) ?_
                            rintro v24_1 w24_1 ⟨rfl, hy3⟩
                            replace hs := hs.call hy3
                            refine Z.lb 2 rfl ?_
                            refine Z.yes (s := 78) (b := true) rfl ((by decide)) rfl ?_
                            refine Z.le rfl (by exact ⟨rfl, trivial⟩) ?_
                            refine Z.ZO.call rfl rfl (by rfl) rfl rfl Try.call14 rfl (wbytes_any g5 _ sv2 _ _ (hs.lend (L1 := WrL _ _ _ _)) (by simp [unb_length]; omega)) ?_
                            rintro v24_4 w24_4 hz
                            replace hs := hs.regain (L1 := WrL _ _ _ _) hz
                            obtain ⟨Aw, cw, rfl, -, -, -⟩ := SX.row_slv hs (j := 0) rfl
                            refine Z.lb 1 rfl ?_
                            refine Z.yes (s := 78) (b := true) rfl rfl rfl ?_
                            refine Z.le rfl (by exact ⟨rfl, trivial⟩) ?_
                            refine Z.ZO.call rfl rfl (by rfl) rfl rfl Try.call15 rfl (refbytes Ab2 _ cb2 (bs ++ unb bl) _ (SX.row_slB hs (j := 3) rfl) rfl (by simp [unb_length]; omega)) ?_
                            rintro v24_6 w24_6 hy4
                            replace hs := hs.call hy4
                            obtain ⟨Ar, cr, rfl, -, -, -⟩ := SX.row_slv hs (j := 0) rfl
                            refine Z.le rfl (by exact ⟨rfl, trivial⟩) ?_
                            refine Z.ZO.call rfl rfl (by rfl) rfl rfl Try.call13 rfl (same_any Aw Ar _ _ cw cr _ _ _ (SX.row_slB hs (j := 1) rfl) (SX.row_slB hs (j := 0) rfl) rfl rfl (pk_bd _) (pk_bd _)) ?_
                            rintro v24_7 w24_7 ⟨rfl, hy5⟩
                            replace hs := hs.call hy5
                            refine Z.l rfl rfl (by rfl) (Z.keepS hs) (Z.Yd.pickT rfl rfl) ?_
                            refine Z.lb 1 rfl ?_
                            refine Z.yes (s := 84) (b := true) rfl ((by simp)) rfl ?_
                            refine Z.le rfl (by exact ⟨rfl, trivial⟩) ?_
                            refine Z.ZO.call rfl rfl (by rfl) rfl rfl Try.call10 rfl (works_any _) ?_
                            rintro v24_10 w24_10 ⟨rfl, hy6⟩
                            replace hs := hs.call hy6
                            refine Z.l rfl rfl (by rfl) (Z.keepS hs) (Z.Yd.pickT rfl rfl) ?_
                            refine Z.lb 1 rfl ?_
                            refine Z.lnil ?_
                            refine Z.only [4] rfl ?_
                            refine Z.nthen ?_
                            refine Z.ret ?_
                            -- ret#5
                            refine Z.out1 (by exact ⟨rfl, trivial⟩) ?_
                            exact ⟨_, rfl, rfl, hs.sub (List.nil_sublist _)⟩
                            )
                      )
                )
          )
theorem fieldOwn_rd (a0 : Option Addr) (len0 cap0 : Nat) (a1 : Option Addr) (len1 cap1 : Nat) (w : World) (z0 : Rd Try.prog w 22 (Value.slice a0 len0 cap0).cells.toList) (z1 : Rd Try.prog w 25 (Value.slice a1 len1 cap1).cells.toList) :
    Calls Try.prog 4 #[.slice a0 len0 cap0, .slice a1 len1 cap1] w fun e w' => e = .returned (.bool true) ∧ Below w.heap.size w w' := by
  obtain ⟨l, h1, h2, h3, h4⟩ := rd_acts z0
  obtain ⟨bl, g1, g2, g3, g4⟩ := rd_bytes z1
  exact rowOf (fieldOwn_walk a0 len0 cap0 l a1 len1 cap1 bl w h4 h1 h2 h3 g4 g1 g2 g3)
end Go.Proofs.Ytggikablbdhniaa
