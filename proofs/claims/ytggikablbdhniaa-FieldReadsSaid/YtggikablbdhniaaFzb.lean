/- The law's ask. -/
import Derived.Test.YtggikablbdhniaaFza
namespace Go.Proofs.Ytggikablbdhniaa
open Go.RowKit
set_option linter.unusedSimpArgs false
set_option linter.unusedVariables false

theorem gsV_bd {l : List Int} : ∀ (n : Nat) (a : Nat), ∀ x ∈ gsV l a (List.replicate n 8), 0 ≤ x ∧ x < 256
  | 0, a, x, hx => by simp [gsV] at hx
  | n + 1, a, x, hx => by
    rw [List.replicate_succ] at hx
    simp only [gsV] at hx
    rcases List.mem_cons.1 hx with rfl | hx
    · exact getV8 l a
    · exact gsV_bd n _ x hx
theorem gbV_bd {l : List Int} {a : Nat} {n : Int} : ∀ x ∈ gbV l a n, 0 ≤ x ∧ x < 256 := by
  unfold gbV
  split
  · exact gsV_bd _ _
  · simp
theorem gbA_le {l : List Int} {a : Nat} {n : Int} (h : a ≤ 8 * l.length) : gbA l a n ≤ 8 * l.length := by
  unfold gbA
  split
  · rename_i e
    unfold gbE at e
    split at e
    · simp at e
    · split at e
      · simp at e
      · omega
  · exact h
theorem alA_le {l : List Int} {a : Nat} (h : a ≤ 8 * l.length) : alA l a ≤ 8 * l.length := by
  unfold alA toByte
  split <;> omega

set_option maxRecDepth 100000 in
theorem ask_any (g T : Nat) (svb : Value) (l : List Int) (a : Nat) (A : Option Addr) (n c : Nat) (x : AskV) (w : World) (hs : SX.St w (SX.idsOf (RdL g T svb l a)) w (RdL g T svb l a))
    (hx : Sx w (SX.idsOf (RdL g T svb l a)) A (ints .u8 (bits (unb l)))) (hn : n = l.length * 8) (hc : n ≤ c) (hll : l.length ≤ 1000000) (ha : a ≤ 8 * l.length) (hb : ∀ x ∈ l, 0 ≤ x ∧ x < 256)
    (hxl : Sx w (SX.idsOf (RdL g T svb l a)) x.lA (ints .i64 x.ll)) (h20 : x.ll.length ≤ 20) {W : World} (hk : GoodK W x) :
    Calls Try.prog 30 #[.pointer (some ⟨g, 0, none⟩), .agg #[.slice A n c, .int .i64 (a : Int)], .agg (encK x).toArray] w (SX.Ret fun r w' => ∃ a' : Nat, r = .tuple #[.agg #[.slice A n c, .int .i64 (a' : Int)], .bool true] ∧ a' ≤ 8 * l.length ∧
      SX.St w (SX.idsOf (RdL g T svb l a)) w' (RdL g T svb l a')) := by
  generalize hM : SX.idsOf (RdL g T svb l a) = M at *
  obtain ⟨what, k, lA, lc, ll⟩ := x
  have hw := hk.what
  have hkn := hk.n
  clear hk
  simp only at *
  simp only [encK]
  refine Z.enter Try.func30 rfl Try.ntmps30 rfl rfl ?_
  refine Z.seq ?_
  refine Z.region ?_
  refine Z.le rfl trivial ?_
  refine Z.ZO.box rfl rfl (by rfl) rfl rfl hs ?_
  clear hs; intro g4 w4 hs
  refine Z.le rfl trivial ?_
  refine Z.ZO.box rfl rfl (by rfl) rfl rfl hs ?_
  clear hs; intro g5 w5 hs
  refine Z.le rfl trivial ?_
  refine Z.ZO.alloc rfl rfl (by rfl) Try.zeroValue65 rfl hs ?_
  clear hs; intro g6 w6 hs
  refine Z.lb 1 rfl ?_
  refine Z.lnil ?_
  refine Z.only [0, 4, 5, 6] rfl ?_
  obtain ⟨Wb, hWb⟩ : ∃ Wb, Wb = SX.Ent.blk g4 65 #[.slice A n c, .int .i64 (a : Int)] := ⟨_, rfl⟩
  replace hs : SX.St w M _ (RdL g T svb l a ++ [SX.Ent.blk g6 65 #[.slice none 0 0, .int .i64 0], SX.Ent.blk g5 68 #[.int .i64 what, .int .i64 k, .slice lA ll.length lc], SX.Ent.blk g4 65 #[.slice A n c, .int .i64 (a : Int)]]) := hs.sel [3, 4, 0, 1, 2] (by decide)
  refine Z.nthen ?_
  refine Z.seq ?_
  refine Z.seq ?_
  refine Z.region ?_
  refine Z.l rfl rfl (by rfl) (Z.keepS hs) (Z.Yd.fieldA (m := 0) rfl (by kernel_rfl)) ?_
  refine Z.l rfl rfl (by rfl) (Z.keepS hs) (by first | exact Z.Yd.load rfl Try.isAgg3 (fun _ => Z.cellB (by first | ((repeat (first | exact List.mem_cons_self | refine List.mem_cons_of_mem _ ?_ | refine List.mem_append_right _ ?_)); done) | fail) rfl) | exact Z.Yd.load rfl Try.isAgg3 (fun _ => Z.cellO (by assumption) (by simp) (by assumption)) | fail "load 1.1") ?_
  refine Z.lnil ?_
  refine Z.only [0, 4, 5, 6, 27] rfl ?_
  refine Z.nthen ?_
  refine Z.block ?_
  refine Z.seq ?_
  refine Z.region ?_
  refine Z.lb 2 rfl ?_
  refine Z.lnil ?_
  refine Z.only [0, 4, 5, 6, 27, 28] rfl ?_
  refine Z.nthen ?_
  refine Z.cond rfl (fun hc2 => ?_) (fun hc2 => ?_)
  · first
      | (exfalso; simp at hc2 <;> omega)
      | (
        (try simp at hc2)
        refine Z.seq ?_
        refine Z.region ?_
        refine Z.lb 1 rfl ?_
        refine Z.l rfl rfl (by rfl) (Z.keepS hs) (Z.Yd.fieldA (m := 1) rfl (by kernel_rfl)) ?_
        refine Z.l rfl rfl (by rfl) (Z.keepS hs) (by first | exact Z.Yd.load rfl Try.isAgg3 (fun _ => Z.cellB (by first | ((repeat (first | exact List.mem_cons_self | refine List.mem_cons_of_mem _ ?_ | refine List.mem_append_right _ ?_)); done) | fail) rfl) | exact Z.Yd.load rfl Try.isAgg3 (fun _ => Z.cellO (by assumption) (by simp) (by assumption)) | fail "load 3.2") ?_
        refine Z.le rfl trivial ?_
        refine Z.ZO.call rfl rfl (by rfl) rfl rfl Try.call25 rfl (rget_any g T svb l a k _ (hs.lend (L1 := RdL _ _ _ _ _)) hll ha hb) ?_
        rintro v3_3 w3_3 ⟨rfl, hz⟩
        replace hs := hs.regain (L1 := RdL _ _ _ _ _) hz
        simp only [RdL, List.cons_append, List.nil_append] at hs
        refine Z.lb 5 rfl ?_
        refine Z.lnil ?_
        refine Z.only [4, 5, 6, 8, 9] rfl ?_
        refine Z.nthen ?_
        refine Z.seq ?_
        refine Z.region ?_
        refine Z.l rfl rfl (by rfl) (Z.keepS hs) (by first | exact Z.Yd.loadA _ rfl Try.isAgg65 (fun _ => Z.cellsB (by first | ((repeat (first | exact List.mem_cons_self | refine List.mem_cons_of_mem _ ?_ | refine List.mem_append_right _ ?_)); done) | fail)) (by exact Try.sizeOf65) | fail "load 4.0") ?_
        refine Z.l rfl rfl (by rfl) (Z.keepS hs) (Z.Yd.fieldA (m := 1) rfl (by kernel_rfl)) ?_
        refine Z.l rfl rfl (by rfl) (Z.keepS hs) (by first | exact Z.Yd.load rfl Try.isAgg3 (fun _ => Z.cellB (by first | ((repeat (first | exact List.mem_cons_self | refine List.mem_cons_of_mem _ ?_ | refine List.mem_append_right _ ?_)); done) | fail) rfl) | exact Z.Yd.load rfl Try.isAgg3 (fun _ => Z.cellO (by assumption) (by simp) (by assumption)) | fail "load 4.2") ?_
        refine Z.le rfl trivial ?_
        refine Z.ZO.call rfl rfl (by rfl) rfl rfl Try.call45 rfl (refget A n c l a k _ (hx.st hs) hn hc hll ha) ?_
        rintro v4_3 w4_3 ⟨rfl, hy⟩
        replace hs := hs.call hy
        clear hy
        try simp only [List.cons_append, List.nil_append, List.append_nil] at hs
        refine Z.lb 4 rfl ?_
        refine Z.le rfl trivial ?_
        refine Z.ZO.alloc rfl rfl (by rfl) Try.zeroValue65 rfl hs ?_
        clear hs; intro g10 w10 hs
        refine Z.le rfl trivial ?_
        refine Z.ZO.storeA rfl rfl hs rfl rfl (by kernel_rfl) (by simp [Value.oneCell']) (by first | exact SX.at0 | exact SX.at1 | exact SX.at2 | exact SX.at3 | exact SX.at4 | exact SX.at5 | exact Z.at6 | exact Z.at7 | exact Z.at8 | exact Z.at9 | exact Z.at10 | exact Z.at11 | exact Z.at12) (by rfl) ?_
        clear hs; intro ws hs
        simp only [Nat.zero_add, Nat.add_zero, Nat.reduceAdd, List.set_cons_zero, List.set_cons_succ, List.setIfInBounds_toArray] at hs
        refine Z.lb 2 rfl ?_
        refine Z.lnil ?_
        refine Z.only [6, 8, 9, 10, 11, 12] rfl ?_
        refine Z.nthen ?_
        refine Z.seq ?_
        refine Z.drawL [SX.Ent.blk g10 65 #[.slice A n c, .int .i64 (getA l a k : Int)]] (fun _ => true) mixed hs ?_
        clear hs; intro wd5 hs
        refine Z.t 0 rfl rfl rfl (by rfl) (by kernel_rfl) ⟨_, hs, by first | (simp; done) | exact fun e he => List.mem_append_right _ he⟩ (by first | exact Z.Yd.loadA _ rfl Try.isAgg65 (fun _ => Z.cellsB (by first | ((repeat (first | exact List.mem_cons_self | refine List.mem_cons_of_mem _ ?_ | refine List.mem_append_right _ ?_)); done) | fail)) (by exact Try.sizeOf65) | fail "load 5.0") ?_
        refine Z.tb [1, 2, 3, 4, 5, 7] (by kernel_rfl) rfl ⟨_, hs, by first | (simp; done) | exact fun e he => List.mem_append_right _ he⟩ rfl ?_
        refine Z.yes (s := 49) (b := true) rfl (by simp) rfl ?_
        refine Z.tn 6 rfl rfl (by kernel_rfl) rfl (by exact ⟨rfl, trivial⟩) ?_
        refine Z.ZO.call rfl rfl (by rfl) rfl rfl Try.call18 rfl (num_any _ _) ?_
        rintro v5_6 w5_6 ⟨rfl, hy⟩
        replace hs := hs.call hy
        clear hy
        try simp only [List.cons_append, List.nil_append, List.append_nil] at hs
        refine Z.tk (Dn := fun _ => true) (i := 6) (fun _ => ⟨_, hs, by first | (simp; done) | exact fun e he => List.mem_append_right _ he⟩) ?_
        refine Z.tb [8, 9] (by kernel_rfl) rfl ⟨_, hs, by first | (simp; done) | exact fun e he => List.mem_append_right _ he⟩ rfl ?_
        refine Z.tn 10 rfl rfl (by kernel_rfl) rfl trivial ?_
        refine Z.ZO.storeA rfl rfl hs rfl rfl (by kernel_rfl) (by simp [Value.oneCell']) (by first | exact SX.at0 | exact SX.at1 | exact SX.at2 | exact SX.at3 | exact SX.at4 | exact SX.at5 | exact Z.at6 | exact Z.at7 | exact Z.at8 | exact Z.at9 | exact Z.at10 | exact Z.at11 | exact Z.at12) (by rfl) ?_
        clear hs; intro ws hs
        simp only [Nat.zero_add, Nat.add_zero, Nat.reduceAdd, List.set_cons_zero, List.set_cons_succ, List.setIfInBounds_toArray] at hs
        refine Z.tk (Dn := fun _ => true) (i := 10) (fun _ => ⟨_, hs, by first | (simp; done) | exact fun e he => List.mem_append_right _ he⟩) ?_
        refine Z.tb [11] (by kernel_rfl) rfl ⟨_, hs, by first | (simp; done) | exact fun e he => List.mem_append_right _ he⟩ rfl ?_
        refine Z.td (by rfl) (by kernel_rfl) ?_
        refine Z.only [6, 7] rfl ?_
        refine Z.nthen ?_
        refine Z.ret ?_
        repeat (first | refine Z.rthen ?_ | refine Z.rblock ?_ | refine Z.rscope ?_)
        -- ret#0
        refine Z.out2 (by exact ⟨⟨_, rfl, Z.rvcA hs Try.isAgg65 (by first | ((repeat (first | exact List.mem_cons_self | refine List.mem_cons_of_mem _ ?_ | refine List.mem_append_right _ ?_)); done) | fail) (by exact Try.sizeOf65)⟩, rfl, trivial⟩) ?_
        exact ⟨_, rfl, getA l a k, by simp, getA_le ha, hs.sel [1, 2] (by decide)⟩
        )
  · first
      | (exfalso; simp at hc2 <;> omega)
      | (
        (try simp at hc2)
        refine Z.seq ?_
        refine Z.region ?_
        refine Z.lb 2 rfl ?_
        refine Z.lnil ?_
        refine Z.only [0, 4, 5, 6, 27, 55] rfl ?_
        refine Z.nthen ?_
        refine Z.cond rfl (fun hc6 => ?_) (fun hc6 => ?_)
        · first
            | (exfalso; simp at hc6 <;> omega)
            | (
              (try simp at hc6)
              refine Z.seq ?_
              refine Z.region ?_
              refine Z.lb 1 rfl ?_
              refine Z.l rfl rfl (by rfl) (Z.keepS hs) (Z.Yd.fieldA (m := 1) rfl (by kernel_rfl)) ?_
              refine Z.l rfl rfl (by rfl) (Z.keepS hs) (by first | exact Z.Yd.load rfl Try.isAgg3 (fun _ => Z.cellB (by first | ((repeat (first | exact List.mem_cons_self | refine List.mem_cons_of_mem _ ?_ | refine List.mem_append_right _ ?_)); done) | fail) rfl) | exact Z.Yd.load rfl Try.isAgg3 (fun _ => Z.cellO (by assumption) (by simp) (by assumption)) | fail "load 7.2") ?_
              refine Z.le rfl trivial ?_
              refine Z.ZO.call rfl rfl (by rfl) rfl rfl Try.call26 rfl (rgetbytes_any g T svb l a k _ (hs.lend (L1 := RdL _ _ _ _ _)) hll ha hb) ?_
              rintro v7_3 w7_3 ⟨so, rfl, hz⟩
              replace hs := hs.regain (L1 := RdL _ _ _ _ _) hz
              simp only [RdL, List.cons_append, List.nil_append] at hs
              obtain ⟨Ao, co, rfl, -, -, -⟩ := SX.row_slv hs (j := 2) rfl
              refine Z.lb 5 rfl ?_
              refine Z.lnil ?_
              refine Z.only [4, 5, 6, 13, 14] rfl ?_
              refine Z.nthen ?_
              refine Z.seq ?_
              refine Z.region ?_
              refine Z.l rfl rfl (by rfl) (Z.keepS hs) (by first | exact Z.Yd.loadA _ rfl Try.isAgg65 (fun _ => Z.cellsB (by first | ((repeat (first | exact List.mem_cons_self | refine List.mem_cons_of_mem _ ?_ | refine List.mem_append_right _ ?_)); done) | fail)) (by exact Try.sizeOf65) | fail "load 8.0") ?_
              refine Z.l rfl rfl (by rfl) (Z.keepS hs) (Z.Yd.fieldA (m := 1) rfl (by kernel_rfl)) ?_
              refine Z.l rfl rfl (by rfl) (Z.keepS hs) (by first | exact Z.Yd.load rfl Try.isAgg3 (fun _ => Z.cellB (by first | ((repeat (first | exact List.mem_cons_self | refine List.mem_cons_of_mem _ ?_ | refine List.mem_append_right _ ?_)); done) | fail) rfl) | exact Z.Yd.load rfl Try.isAgg3 (fun _ => Z.cellO (by assumption) (by simp) (by assumption)) | fail "load 8.2") ?_
              refine Z.le rfl trivial ?_
              refine Z.ZO.call rfl rfl (by rfl) rfl rfl Try.call46 rfl (refgetbytes A n c l a k _ (hx.st hs) hn hc hll ha) ?_
              rintro v8_3 w8_3 ⟨so2, rfl, hy⟩
              replace hs := hs.call hy
              clear hy
              try simp only [List.cons_append, List.nil_append, List.append_nil] at hs
              obtain ⟨Ap, cp, rfl, -, -, -⟩ := SX.row_slv hs (j := 0) rfl
              refine Z.lb 4 rfl ?_
              refine Z.le rfl trivial ?_
              refine Z.ZO.alloc rfl rfl (by rfl) Try.zeroValue65 rfl hs ?_
              clear hs; intro g15 w15 hs
              refine Z.le rfl trivial ?_
              refine Z.ZO.storeA rfl rfl hs rfl rfl (by kernel_rfl) (by simp [Value.oneCell']) (by first | exact SX.at0 | exact SX.at1 | exact SX.at2 | exact SX.at3 | exact SX.at4 | exact SX.at5 | exact Z.at6 | exact Z.at7 | exact Z.at8 | exact Z.at9 | exact Z.at10 | exact Z.at11 | exact Z.at12) (by rfl) ?_
              clear hs; intro ws hs
              simp only [Nat.zero_add, Nat.add_zero, Nat.reduceAdd, List.set_cons_zero, List.set_cons_succ, List.setIfInBounds_toArray] at hs
              refine Z.lb 2 rfl ?_
              refine Z.lnil ?_
              refine Z.only [6, 13, 14, 15, 16, 17] rfl ?_
              refine Z.nthen ?_
              refine Z.seq ?_
              refine Z.drawL [SX.Ent.blk g15 65 #[.slice A n c, .int .i64 (gbA l a k : Int)]] (fun _ => true) mixed hs ?_
              clear hs; intro wd9 hs
              refine Z.t 0 rfl rfl rfl (by rfl) (by kernel_rfl) ⟨_, hs, by first | (simp; done) | exact fun e he => List.mem_append_right _ he⟩ (by first | exact Z.Yd.loadA _ rfl Try.isAgg65 (fun _ => Z.cellsB (by first | ((repeat (first | exact List.mem_cons_self | refine List.mem_cons_of_mem _ ?_ | refine List.mem_append_right _ ?_)); done) | fail)) (by exact Try.sizeOf65) | fail "load 9.0") ?_
              refine Z.tb [1, 2] (by kernel_rfl) rfl ⟨_, hs, by first | (simp; done) | exact fun e he => List.mem_append_right _ he⟩ rfl ?_
              refine Z.tn 3 rfl rfl (by kernel_rfl) rfl trivial ?_
              refine Z.ZO.call rfl rfl (by rfl) rfl rfl Try.call13 rfl (same_any Ao Ap _ _ co cp (gbV l a k) (gbV l a k) _ (SX.row_slB hs (j := 4) rfl) (SX.row_slB hs (j := 1) rfl) rfl rfl gbV_bd gbV_bd) ?_
              rintro v9_3 w9_3 ⟨rfl, hy⟩
              replace hs := hs.call hy
              clear hy
              try simp only [List.cons_append, List.nil_append, List.append_nil] at hs
              refine Z.tk (Dn := fun _ => true) (i := 3) (fun _ => ⟨_, hs, by first | (simp; done) | exact fun e he => List.mem_append_right _ he⟩) ?_
              refine Z.tb [4, 5, 7] (by kernel_rfl) rfl ⟨_, hs, by first | (simp; done) | exact fun e he => List.mem_append_right _ he⟩ rfl ?_
              refine Z.yes (s := 76) (b := true) rfl (by simp) rfl ?_
              refine Z.tn 6 rfl rfl (by kernel_rfl) rfl (by exact ⟨rfl, trivial⟩) ?_
              refine Z.ZO.call rfl rfl (by rfl) rfl rfl Try.call18 rfl (num_any _ _) ?_
              rintro v9_6 w9_6 ⟨rfl, hy⟩
              replace hs := hs.call hy
              clear hy
              try simp only [List.cons_append, List.nil_append, List.append_nil] at hs
              refine Z.tk (Dn := fun _ => true) (i := 6) (fun _ => ⟨_, hs, by first | (simp; done) | exact fun e he => List.mem_append_right _ he⟩) ?_
              refine Z.tb [8, 9] (by kernel_rfl) rfl ⟨_, hs, by first | (simp; done) | exact fun e he => List.mem_append_right _ he⟩ rfl ?_
              refine Z.tn 10 rfl rfl (by kernel_rfl) rfl trivial ?_
              refine Z.ZO.storeA rfl rfl hs rfl rfl (by kernel_rfl) (by simp [Value.oneCell']) (by first | exact SX.at0 | exact SX.at1 | exact SX.at2 | exact SX.at3 | exact SX.at4 | exact SX.at5 | exact Z.at6 | exact Z.at7 | exact Z.at8 | exact Z.at9 | exact Z.at10 | exact Z.at11 | exact Z.at12) (by rfl) ?_
              clear hs; intro ws hs
              simp only [Nat.zero_add, Nat.add_zero, Nat.reduceAdd, List.set_cons_zero, List.set_cons_succ, List.setIfInBounds_toArray] at hs
              refine Z.tk (Dn := fun _ => true) (i := 10) (fun _ => ⟨_, hs, by first | (simp; done) | exact fun e he => List.mem_append_right _ he⟩) ?_
              refine Z.tb [11] (by kernel_rfl) rfl ⟨_, hs, by first | (simp; done) | exact fun e he => List.mem_append_right _ he⟩ rfl ?_
              refine Z.td (by rfl) (by kernel_rfl) ?_
              refine Z.only [6, 7] rfl ?_
              refine Z.nthen ?_
              refine Z.ret ?_
              repeat (first | refine Z.rthen ?_ | refine Z.rblock ?_ | refine Z.rscope ?_)
              -- ret#1
              refine Z.out2 (by exact ⟨⟨_, rfl, Z.rvcA hs Try.isAgg65 (by first | ((repeat (first | exact List.mem_cons_self | refine List.mem_cons_of_mem _ ?_ | refine List.mem_append_right _ ?_)); done) | fail) (by exact Try.sizeOf65)⟩, rfl, trivial⟩) ?_
              exact ⟨_, rfl, gbA l a k, by simp, gbA_le ha, hs.sel [2, 3] (by decide)⟩
              )
        · first
            | (exfalso; simp at hc6 <;> omega)
            | (
              (try simp at hc6)
              refine Z.seq ?_
              refine Z.region ?_
              refine Z.lb 2 rfl ?_
              refine Z.lnil ?_
              refine Z.only [0, 4, 5, 6, 82] rfl ?_
              refine Z.nthen ?_
              refine Z.cond rfl (fun hc10 => ?_) (fun hc10 => ?_)
              · first
                  | (exfalso; simp at hc10 <;> omega)
                  | (
                    (try simp at hc10)
                    refine Z.seq ?_
                    refine Z.region ?_
                    refine Z.lb 1 rfl ?_
                    refine Z.l rfl rfl (by rfl) (Z.keepS hs) (Z.Yd.fieldA (m := 2) rfl (by kernel_rfl)) ?_
                    refine Z.l rfl rfl (by rfl) (Z.keepS hs) (by first | exact Z.Yd.load rfl Try.isAgg48 (fun _ => Z.cellB (by first | ((repeat (first | exact List.mem_cons_self | refine List.mem_cons_of_mem _ ?_ | refine List.mem_append_right _ ?_)); done) | fail) rfl) | exact Z.Yd.load rfl Try.isAgg48 (fun _ => Z.cellO (by assumption) (by simp) (by assumption)) | fail "load 11.2") ?_
                    refine Z.le rfl trivial ?_
                    refine Z.ZO.call rfl rfl (by rfl) rfl rfl Try.call22 rfl (rgetall_any g T svb l a lA _ lc ll _ (hs.lend (L1 := RdL _ _ _ _ _)) (hxl.lent (L1 := RdL _ _ _ _ _) hs) rfl (by omega) hll ha hb) ?_
                    rintro v11_3 w11_3 ⟨so, rfl, hz⟩
                    replace hs := hs.regain (L1 := RdL _ _ _ _ _) hz
                    simp only [RdL, List.cons_append, List.nil_append] at hs
                    obtain ⟨Ao, co, rfl, -, -, -⟩ := SX.row_slv hs (j := 2) rfl
                    refine Z.lb 5 rfl ?_
                    refine Z.lnil ?_
                    refine Z.only [4, 5, 6, 18, 19] rfl ?_
                    refine Z.nthen ?_
                    refine Z.seq ?_
                    refine Z.region ?_
                    refine Z.l rfl rfl (by rfl) (Z.keepS hs) (by first | exact Z.Yd.loadA _ rfl Try.isAgg65 (fun _ => Z.cellsB (by first | ((repeat (first | exact List.mem_cons_self | refine List.mem_cons_of_mem _ ?_ | refine List.mem_append_right _ ?_)); done) | fail)) (by exact Try.sizeOf65) | fail "load 12.0") ?_
                    refine Z.l rfl rfl (by rfl) (Z.keepS hs) (Z.Yd.fieldA (m := 2) rfl (by kernel_rfl)) ?_
                    refine Z.l rfl rfl (by rfl) (Z.keepS hs) (by first | exact Z.Yd.load rfl Try.isAgg48 (fun _ => Z.cellB (by first | ((repeat (first | exact List.mem_cons_self | refine List.mem_cons_of_mem _ ?_ | refine List.mem_append_right _ ?_)); done) | fail) rfl) | exact Z.Yd.load rfl Try.isAgg48 (fun _ => Z.cellO (by assumption) (by simp) (by assumption)) | fail "load 12.2") ?_
                    refine Z.le rfl trivial ?_
                    refine Z.ZO.call rfl rfl (by rfl) rfl rfl Try.call47 rfl (refgetall A n c l a lA _ lc ll _ (hx.st hs) hn hc hll ha (hxl.st hs) rfl (by omega)) ?_
                    rintro v12_3 w12_3 ⟨so2, rfl, hy⟩
                    replace hs := hs.call hy
                    clear hy
                    try simp only [List.cons_append, List.nil_append, List.append_nil] at hs
                    obtain ⟨Ap, cp, rfl, -, -, -⟩ := SX.row_slv hs (j := 0) rfl
                    refine Z.lb 4 rfl ?_
                    refine Z.le rfl trivial ?_
                    refine Z.ZO.alloc rfl rfl (by rfl) Try.zeroValue65 rfl hs ?_
                    clear hs; intro g20 w20 hs
                    refine Z.le rfl trivial ?_
                    refine Z.ZO.storeA rfl rfl hs rfl rfl (by kernel_rfl) (by simp [Value.oneCell']) (by first | exact SX.at0 | exact SX.at1 | exact SX.at2 | exact SX.at3 | exact SX.at4 | exact SX.at5 | exact Z.at6 | exact Z.at7 | exact Z.at8 | exact Z.at9 | exact Z.at10 | exact Z.at11 | exact Z.at12) (by rfl) ?_
                    clear hs; intro ws hs
                    simp only [Nat.zero_add, Nat.add_zero, Nat.reduceAdd, List.set_cons_zero, List.set_cons_succ, List.setIfInBounds_toArray] at hs
                    refine Z.lb 2 rfl ?_
                    refine Z.lnil ?_
                    refine Z.only [6, 18, 19, 20, 21, 22] rfl ?_
                    refine Z.nthen ?_
                    refine Z.seq ?_
                    refine Z.drawL [SX.Ent.blk g20 65 #[.slice A n c, .int .i64 ((if gsE l a ll = 0 then gsA l a ll else a : Nat) : Int)]] (fun _ => true) mixed hs ?_
                    clear hs; intro wd13 hs
                    refine Z.t 0 rfl rfl rfl (by rfl) (by kernel_rfl) ⟨_, hs, by first | (simp; done) | exact fun e he => List.mem_append_right _ he⟩ (by first | exact Z.Yd.loadA _ rfl Try.isAgg65 (fun _ => Z.cellsB (by first | ((repeat (first | exact List.mem_cons_self | refine List.mem_cons_of_mem _ ?_ | refine List.mem_append_right _ ?_)); done) | fail)) (by exact Try.sizeOf65) | fail "load 13.0") ?_
                    refine Z.tb [1, 2] (by kernel_rfl) rfl ⟨_, hs, by first | (simp; done) | exact fun e he => List.mem_append_right _ he⟩ rfl ?_
                    refine Z.tn 3 rfl rfl (by kernel_rfl) rfl trivial ?_
                    refine Z.ZO.call rfl rfl (by rfl) rfl rfl Try.call48 rfl (ints_any Ao Ap _ _ co cp _ _ _ (SX.row_slB hs (j := 4) rfl) (SX.row_slB hs (j := 1) rfl) (by split <;> simp [gsV_length]) (by split <;> simp [gsV_length]) rfl (by split <;> omega)) ?_
                    rintro v13_3 w13_3 ⟨rfl, hy⟩
                    replace hs := hs.call hy
                    clear hy
                    try simp only [List.cons_append, List.nil_append, List.append_nil] at hs
                    refine Z.tk (Dn := fun _ => true) (i := 3) (fun _ => ⟨_, hs, by first | (simp; done) | exact fun e he => List.mem_append_right _ he⟩) ?_
                    refine Z.tb [4, 5, 7] (by kernel_rfl) rfl ⟨_, hs, by first | (simp; done) | exact fun e he => List.mem_append_right _ he⟩ rfl ?_
                    refine Z.yes (s := 103) (b := true) rfl (by simp) rfl ?_
                    refine Z.tn 6 rfl rfl (by kernel_rfl) rfl (by exact ⟨rfl, trivial⟩) ?_
                    refine Z.ZO.call rfl rfl (by rfl) rfl rfl Try.call18 rfl (num_any _ _) ?_
                    rintro v13_6 w13_6 ⟨rfl, hy⟩
                    replace hs := hs.call hy
                    clear hy
                    try simp only [List.cons_append, List.nil_append, List.append_nil] at hs
                    refine Z.tk (Dn := fun _ => true) (i := 6) (fun _ => ⟨_, hs, by first | (simp; done) | exact fun e he => List.mem_append_right _ he⟩) ?_
                    refine Z.tb [8, 9] (by kernel_rfl) rfl ⟨_, hs, by first | (simp; done) | exact fun e he => List.mem_append_right _ he⟩ rfl ?_
                    refine Z.tn 10 rfl rfl (by kernel_rfl) rfl trivial ?_
                    refine Z.ZO.storeA rfl rfl hs rfl rfl (by kernel_rfl) (by simp [Value.oneCell']) (by first | exact SX.at0 | exact SX.at1 | exact SX.at2 | exact SX.at3 | exact SX.at4 | exact SX.at5 | exact Z.at6 | exact Z.at7 | exact Z.at8 | exact Z.at9 | exact Z.at10 | exact Z.at11 | exact Z.at12) (by rfl) ?_
                    clear hs; intro ws hs
                    simp only [Nat.zero_add, Nat.add_zero, Nat.reduceAdd, List.set_cons_zero, List.set_cons_succ, List.setIfInBounds_toArray] at hs
                    refine Z.tk (Dn := fun _ => true) (i := 10) (fun _ => ⟨_, hs, by first | (simp; done) | exact fun e he => List.mem_append_right _ he⟩) ?_
                    refine Z.tb [11] (by kernel_rfl) rfl ⟨_, hs, by first | (simp; done) | exact fun e he => List.mem_append_right _ he⟩ rfl ?_
                    refine Z.td (by rfl) (by kernel_rfl) ?_
                    refine Z.only [6, 7] rfl ?_
                    refine Z.nthen ?_
                    refine Z.ret ?_
                    repeat (first | refine Z.rthen ?_ | refine Z.rblock ?_ | refine Z.rscope ?_)
                    -- ret#2
                    refine Z.out2 (by exact ⟨⟨_, rfl, Z.rvcA hs Try.isAgg65 (by first | ((repeat (first | exact List.mem_cons_self | refine List.mem_cons_of_mem _ ?_ | refine List.mem_append_right _ ?_)); done) | fail) (by exact Try.sizeOf65)⟩, rfl, trivial⟩) ?_
                    exact ⟨_, rfl, (if gsE l a ll = 0 then gsA l a ll else a), by simp, (by split; exact gsA_le ha; exact ha), hs.sel [2, 3] (by decide)⟩
                    )
              · first
                  | (exfalso; simp at hc10 <;> omega)
                  | (
                    (try simp at hc10)
                    refine Z.skip ?_
                    refine Z.nblock ?_
                    refine Z.nthen ?_
                    refine Z.seq ?_
                    refine Z.region ?_
                    refine Z.lb 1 rfl ?_
                    refine Z.le rfl trivial ?_
                    refine Z.ZO.call rfl rfl (by rfl) rfl rfl Try.call28 rfl (ralign_any g T svb l a _ (hs.lend (L1 := RdL _ _ _ _ _)) hll ha hb) ?_
                    rintro v14_1 w14_1 ⟨rfl, hz⟩
                    replace hs := hs.regain (L1 := RdL _ _ _ _ _) hz
                    simp only [RdL, List.cons_append, List.nil_append] at hs
                    refine Z.lb 1 rfl ?_
                    refine Z.lnil ?_
                    refine Z.only [4, 6, 23] rfl ?_
                    refine Z.nthen ?_
                    refine Z.seq ?_
                    refine Z.region ?_
                    refine Z.l rfl rfl (by rfl) (Z.keepS hs) (by first | exact Z.Yd.loadA _ rfl Try.isAgg65 (fun _ => Z.cellsB (by first | ((repeat (first | exact List.mem_cons_self | refine List.mem_cons_of_mem _ ?_ | refine List.mem_append_right _ ?_)); done) | fail)) (by exact Try.sizeOf65) | fail "load 15.0") ?_
                    refine Z.le rfl trivial ?_
                    refine Z.ZO.call rfl rfl (by rfl) rfl rfl Try.call49 rfl (refral A n c l a _ (hx.st hs) hn hc hll ha) ?_
                    rintro v15_1 w15_1 ⟨rfl, hy⟩
                    replace hs := hs.call hy
                    clear hy
                    try simp only [List.cons_append, List.nil_append, List.append_nil] at hs
                    refine Z.lb 3 rfl ?_
                    refine Z.le rfl trivial ?_
                    refine Z.ZO.alloc rfl rfl (by rfl) Try.zeroValue65 rfl hs ?_
                    clear hs; intro g24 w24 hs
                    refine Z.le rfl trivial ?_
                    refine Z.ZO.storeA rfl rfl hs rfl rfl (by kernel_rfl) (by simp [Value.oneCell']) (by first | exact SX.at0 | exact SX.at1 | exact SX.at2 | exact SX.at3 | exact SX.at4 | exact SX.at5 | exact Z.at6 | exact Z.at7 | exact Z.at8 | exact Z.at9 | exact Z.at10 | exact Z.at11 | exact Z.at12) (by rfl) ?_
                    clear hs; intro ws hs
                    simp only [Nat.zero_add, Nat.add_zero, Nat.reduceAdd, List.set_cons_zero, List.set_cons_succ, List.setIfInBounds_toArray] at hs
                    refine Z.lb 1 rfl ?_
                    refine Z.lnil ?_
                    refine Z.only [6, 23, 24, 25] rfl ?_
                    refine Z.nthen ?_
                    refine Z.seq ?_
                    refine Z.drawL [SX.Ent.blk g24 65 #[.slice A n c, .int .i64 (alA l a : Int)]] (fun _ => true) mixed hs ?_
                    clear hs; intro wd16 hs
                    refine Z.t 0 rfl rfl rfl (by rfl) (by kernel_rfl) ⟨_, hs, by first | (simp; done) | exact fun e he => List.mem_append_right _ he⟩ (by first | exact Z.Yd.loadA _ rfl Try.isAgg65 (fun _ => Z.cellsB (by first | ((repeat (first | exact List.mem_cons_self | refine List.mem_cons_of_mem _ ?_ | refine List.mem_append_right _ ?_)); done) | fail)) (by exact Try.sizeOf65) | fail "load 16.0") ?_
                    refine Z.tb [1, 3] (by kernel_rfl) rfl ⟨_, hs, by first | (simp; done) | exact fun e he => List.mem_append_right _ he⟩ rfl ?_
                    refine Z.tn 2 rfl rfl (by kernel_rfl) rfl trivial ?_
                    refine Z.ZO.call rfl rfl (by rfl) rfl rfl Try.call18 rfl (num_any _ _) ?_
                    rintro v16_2 w16_2 ⟨rfl, hy⟩
                    replace hs := hs.call hy
                    clear hy
                    try simp only [List.cons_append, List.nil_append, List.append_nil] at hs
                    refine Z.tk (Dn := fun _ => true) (i := 2) (fun _ => ⟨_, hs, by first | (simp; done) | exact fun e he => List.mem_append_right _ he⟩) ?_
                    refine Z.tb [4] (by kernel_rfl) rfl ⟨_, hs, by first | (simp; done) | exact fun e he => List.mem_append_right _ he⟩ rfl ?_
                    refine Z.tn 5 rfl rfl (by kernel_rfl) rfl trivial ?_
                    refine Z.ZO.storeA rfl rfl hs rfl rfl (by kernel_rfl) (by simp [Value.oneCell']) (by first | exact SX.at0 | exact SX.at1 | exact SX.at2 | exact SX.at3 | exact SX.at4 | exact SX.at5 | exact Z.at6 | exact Z.at7 | exact Z.at8 | exact Z.at9 | exact Z.at10 | exact Z.at11 | exact Z.at12) (by rfl) ?_
                    clear hs; intro ws hs
                    simp only [Nat.zero_add, Nat.add_zero, Nat.reduceAdd, List.set_cons_zero, List.set_cons_succ, List.setIfInBounds_toArray] at hs
                    refine Z.tk (Dn := fun _ => true) (i := 5) (fun _ => ⟨_, hs, by first | (simp; done) | exact fun e he => List.mem_append_right _ he⟩) ?_
                    refine Z.tb [6] (by kernel_rfl) rfl ⟨_, hs, by first | (simp; done) | exact fun e he => List.mem_append_right _ he⟩ rfl ?_
                    refine Z.td (by rfl) (by kernel_rfl) ?_
                    refine Z.only [6, 7] rfl ?_
                    refine Z.nthen ?_
                    refine Z.ret ?_
                    -- ret#3
                    refine Z.out2 (by exact ⟨⟨_, rfl, Z.rvcA hs Try.isAgg65 (by first | ((repeat (first | exact List.mem_cons_self | refine List.mem_cons_of_mem _ ?_ | refine List.mem_append_right _ ?_)); done) | fail) (by exact Try.sizeOf65)⟩, rfl, trivial⟩) ?_
                    exact ⟨_, rfl, alA l a, by simp, alA_le ha, hs.sel [1, 2] (by decide)⟩
                    )
              )
        )
end Go.Proofs.Ytggikablbdhniaa
