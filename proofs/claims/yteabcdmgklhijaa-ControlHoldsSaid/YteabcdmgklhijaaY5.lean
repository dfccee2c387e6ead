/- Part 5 of the proofs that lead to the statement. -/
import Derived.Test.YteabcdmgklhijaaY4
import Derived.Test.YteabcdmgklhijaaRows
import Derived.WalkKit
import Derived.ProofKit
import Derived.OpenShut
import Derived.ShutString
import Derived.ChangeOld
import Derived.Below
/- Control elements: the stage's theorem. -/
namespace Go.Proofs.Yteabcdmgklhijaa
open Go.RowKit
set_option linter.unusedSimpArgs false
set_option linter.unusedVariables false
--newlaws

theorem ctl_nil : Byts [] := fun x hx => by cases hx
theorem encL_b (r : RepV) : Byts (if r.ok then encL r else []) := by
  split
  · exact encL_bytes (by assumption)
  · exact ctl_nil
theorem pow_b (x : Int) : Byts (if 0 ≤ x ∧ x ≤ 63 then [x] else []) := by
  split
  · intro y hy; obtain rfl : y = x := by simpa using hy
    omega
  · exact ctl_nil
theorem id_b (lc : Int) (id : Nat) : Byts (if idOk lc id then be (wid lc).toNat (id : Int) else []) := by
  split
  · exact be_bytes _ _
  · exact ctl_nil
theorem encL_len (r : RepV) : (if r.ok then encL r else []).length ≤ 1000000 := by
  split
  · unfold encL; split <;> simp
  · simp
theorem pow_len (x : Int) : (if 0 ≤ x ∧ x ≤ 63 then [x] else ([] : List Int)).length ≤ 1000000 := by split <;> simp
theorem id_len (lc : Int) (id : Nat) : (if idOk lc id then be (wid lc).toNat (id : Int) else []).length ≤ 1000000 := by
  have : (wid lc).toNat ≤ 6 := by unfold wid; split <;> omega
  split <;> simp <;> omega
theorem top_b (x : Int) : (decide (lim 62 < x) != ((lvl x : Int) == 63)) = false := by
  have h63 := lvl_top x
  by_cases hq : lim 62 < x
  · have hq2 := h63.1 hq
    simp [hq, hq2]
  · have hq2 : lvl x ≠ 63 := fun e => hq (h63.2 e)
    simp [hq]
    omega
set_option maxRecDepth 100000 in
theorem controlHolds_walk (r : RepV) (h : Int) (id : Nat) (lc : Int) (A : Option Addr) (m c : Nat) (l : List Int) (x y : Int) (w : World) (hid : id < 18446744073709551616) (hx : Sl w A (ints .u8 l)) (hl : l.length = m) (hm : m ≤ maxLen) (hb : Byts l) (hbx : -9223372036854775808 ≤ x ∧ x ≤ 9223372036854775807) :
    Calls Try.prog 8 #[.agg r.cells.toArray, .int .i64 h, .int .u64 (id : Int), .agg #[.int .i64 lc, .slice A m c], .int .i64 x, .int .i64 y] w (SX.Ret fun v w' => v = .bool true ∧ SX.St w [] w' []) := by
  have hs := SX.St.start w
  have hone : ∀ r : RepV, ∀ u ∈ r.cells, u.oneCell' = true := fun r => by simp [RepV.cells, Value.oneCell']
  have hone1 := hone r
  have hone2 := hone (repV lc l)
  by_cases h20 : m ≤ 20
  · have hlx : 0 ≤ levE x ∧ levE x ≤ 2 := by unfold levE; split <;> omega
    have hly : 0 ≤ levE y ∧ levE y ≤ 2 := by unfold levE; split <;> omega
    refine Z.enter Try.func8 rfl Try.ntmps8 rfl rfl ?_
    refine Z.seq ?_
    refine Z.region ?_
    refine Z.le rfl trivial ?_
    refine Z.ZO.box rfl rfl (by rfl) rfl rfl hs ?_
    clear hs; intro g6 w6 hs
    refine Z.le rfl trivial ?_
    refine Z.ZO.box rfl rfl (by rfl) rfl rfl hs ?_
    clear hs; intro g9 w9 hs
    refine Z.lb 1 rfl ?_
    refine Z.lnil ?_
    refine Z.only [1, 2, 4, 5, 6, 9] rfl ?_
    refine Z.nthen ?_
    refine Z.seq ?_
    refine Z.seq ?_
    refine Z.region ?_
    refine Z.l rfl rfl (by rfl) (Z.keepS hs) (Z.Yd.fieldA (m := 1) rfl (by kernel_rfl)) ?_
    refine Z.l rfl rfl (by rfl) (Z.keepS hs) (by first | exact Z.Yd.load rfl Try.isAgg29 (fun _ => Z.cellB (by first | ((repeat (first | exact List.mem_cons_self | refine List.mem_cons_of_mem _ ?_ | refine List.mem_append_right _ ?_)); done) | fail) rfl) | exact Z.Yd.load rfl Try.isAgg29 (fun _ => Z.cellO (by assumption) (by simp) (by assumption)) | fail "load 1.1") ?_
    refine Z.l rfl rfl (by rfl) (Z.keepS hs) (Z.Yd.lenS rfl Try.underlying29) ?_
    refine Z.lb 1 rfl ?_
    refine Z.lnil ?_
    refine Z.only [1, 2, 4, 5, 6, 9, 45] rfl ?_
    refine Z.nthen ?_
    refine Z.cond rfl (fun h => absurd h (by simp; omega)) (fun hc1 => ?_)
    refine Z.skip ?_
    refine Z.nthen ?_
    refine Z.seq ?_
    refine Z.seq ?_
    refine Z.region ?_
    refine Z.l rfl rfl (by rfl) (Z.keepS hs) (by first | exact Z.Yd.loadA _ rfl Try.isAgg28 (fun _ => Z.cellsB (by first | ((repeat (first | exact List.mem_cons_self | refine List.mem_cons_of_mem _ ?_ | refine List.mem_append_right _ ?_)); done) | fail)) (by exact Try.sizeOf28) | fail "load 3.0") ?_
    refine Z.le rfl trivial ?_
    refine Z.ZO.call rfl rfl (by rfl) rfl rfl Try.call14 rfl (encrep_en r _) ?_
    rintro v3_1 w3_1 ⟨B1, c1, co1, rfl, hy⟩
    replace hs := hs.call hy
    clear hy
    try simp only [List.cons_append, List.nil_append, List.append_nil] at hs
    refine Z.lb 3 rfl ?_
    refine Z.le rfl trivial ?_
    refine Z.ZO.alloc rfl rfl (by rfl) Try.zeroValue31 rfl hs ?_
    clear hs; intro g13 w13 hs
    refine Z.le rfl trivial ?_
    first | refine Z.ZO.storeA rfl rfl hs rfl rfl (by kernel_rfl) (by first | (simp [Value.oneCell']; done) | (refine Z.all_one ?_; assumption)) (by first | exact SX.at0 | exact SX.at1 | exact SX.at2 | exact SX.at3 | exact SX.at4 | exact SX.at5 | exact Z.at6 | exact Z.at7 | exact Z.at8 | exact Z.at9 | exact Z.at10 | exact Z.at11 | exact Z.at12) (by rfl) ?_ | refine Z.ZO.storeP rfl rfl hs rfl rfl (by kernel_rfl) (by first | (simp [Value.oneCell']; done) | (refine Z.all_one ?_; assumption)) (by first | exact SX.at0 | exact SX.at1 | exact SX.at2 | exact SX.at3 | exact SX.at4 | exact SX.at5 | exact Z.at6 | exact Z.at7 | exact Z.at8 | exact Z.at9 | exact Z.at10 | exact Z.at11 | exact Z.at12) (by first | decide | (simp; done) | (simp; omega)) ?_ | refine Z.ZO.storePR rfl rfl hs rfl rfl (by kernel_rfl) (by first | (simp [Value.oneCell']; done) | (refine Z.all_one ?_; assumption)) (by first | exact SX.at0 | exact SX.at1 | exact SX.at2 | exact SX.at3 | exact SX.at4 | exact SX.at5 | exact Z.at6 | exact Z.at7 | exact Z.at8 | exact Z.at9 | exact Z.at10 | exact Z.at11 | exact Z.at12) (by first | decide | (simp; done) | (simp; omega)) ?_
    clear hs; intro ws hs
    simp only [Nat.zero_add, Nat.add_zero, Nat.reduceAdd, Int.reduceToNat, Nat.reduceMul, List.set_cons_zero, List.set_cons_succ, List.setIfInBounds_toArray] at hs
    try simp only [Z.putL, Nat.zero_add] at hs
    refine Z.lb 1 rfl ?_
    refine Z.lnil ?_
    refine Z.only [1, 2, 4, 5, 6, 9, 13, 14] rfl ?_
    refine Z.nthen ?_
    refine Z.seq ?_
    refine Z.region ?_
    refine Z.lb 1 rfl ?_
    refine Z.le rfl trivial ?_
    refine Z.ZO.call rfl rfl (by rfl) rfl rfl Try.call17 rfl (num24 _ _) ?_
    rintro v4_1 w4_1 ⟨rfl, hy⟩
    replace hs := hs.call hy
    clear hy
    try simp only [List.cons_append, List.nil_append, List.append_nil] at hs
    refine Z.lb 1 rfl ?_
    refine Z.lnil ?_
    refine Z.only [1, 2, 4, 5, 6, 9, 13, 54] rfl ?_
    refine Z.nthen ?_
    refine Z.cutt (ι := Nat) [1, 2, 4, 5, 9] rfl (fun _ => []) (fun _ wr => SX.St w [] wr [SX.Ent.blk g9 31 #[.int .i64 lc, .slice A m c], SX.Ent.blk g6 28 r.cells.toArray]) ?_ ?_
    · skip
      refine Z.cond rfl (fun hc4 => ?_) (fun hc4 => ?_)
      · first
          | (exfalso; simp at hc4 <;> omega)
          | (
            (try simp at hc4)
            have hr : r.ok := by assumption
            obtain ⟨rb1, rb2⟩ := rep_back hr
            refine Z.seq ?_
            refine Z.region ?_
            refine Z.l rfl rfl (by rfl) (Z.keepS hs) (by first | exact Z.Yd.loadA _ rfl Try.isAgg31 (fun _ => Z.cellsB (by first | ((repeat (first | exact List.mem_cons_self | refine List.mem_cons_of_mem _ ?_ | refine List.mem_append_right _ ?_)); done) | fail)) (by exact Try.sizeOf31) | fail "load 5.0") ?_
            refine Z.le rfl trivial ?_
            refine Z.ZO.call rfl rfl (by rfl) rfl rfl Try.call23 rfl (decrep_any _ B1 _ c1 _ _ ((hs.slm (by first | ((repeat (first | exact List.mem_cons_self | refine List.mem_cons_of_mem _ ?_ | refine List.mem_append_right _ ?_)); done) | fail)).sx) rfl (encL_len r) (encL_b r)) ?_
            rintro v5_1 w5_1 ⟨rfl, hy⟩
            replace hs := hs.call hy
            clear hy
            try simp only [List.cons_append, List.nil_append, List.append_nil] at hs
            rw [if_pos hr, if_pos hr, rb1, rb2]
            refine Z.lb 3 rfl ?_
            refine Z.le rfl trivial ?_
            refine Z.ZO.alloc rfl rfl (by rfl) Try.zeroValue28 rfl hs ?_
            clear hs; intro g15 w15 hs
            refine Z.le rfl trivial ?_
            first | refine Z.ZO.storeA rfl rfl hs rfl rfl (by kernel_rfl) (by first | (simp [Value.oneCell']; done) | (refine Z.all_one ?_; assumption)) (by first | exact SX.at0 | exact SX.at1 | exact SX.at2 | exact SX.at3 | exact SX.at4 | exact SX.at5 | exact Z.at6 | exact Z.at7 | exact Z.at8 | exact Z.at9 | exact Z.at10 | exact Z.at11 | exact Z.at12) (by rfl) ?_ | refine Z.ZO.storeP rfl rfl hs rfl rfl (by kernel_rfl) (by first | (simp [Value.oneCell']; done) | (refine Z.all_one ?_; assumption)) (by first | exact SX.at0 | exact SX.at1 | exact SX.at2 | exact SX.at3 | exact SX.at4 | exact SX.at5 | exact Z.at6 | exact Z.at7 | exact Z.at8 | exact Z.at9 | exact Z.at10 | exact Z.at11 | exact Z.at12) (by first | decide | (simp; done) | (simp; omega)) ?_ | refine Z.ZO.storePR rfl rfl hs rfl rfl (by kernel_rfl) (by first | (simp [Value.oneCell']; done) | (refine Z.all_one ?_; assumption)) (by first | exact SX.at0 | exact SX.at1 | exact SX.at2 | exact SX.at3 | exact SX.at4 | exact SX.at5 | exact Z.at6 | exact Z.at7 | exact Z.at8 | exact Z.at9 | exact Z.at10 | exact Z.at11 | exact Z.at12) (by first | decide | (simp; done) | (simp; omega)) ?_
            clear hs; intro ws hs
            simp only [Nat.zero_add, Nat.add_zero, Nat.reduceAdd, Int.reduceToNat, Nat.reduceMul, List.set_cons_zero, List.set_cons_succ, List.setIfInBounds_toArray] at hs
            try simp only [Z.putL, Nat.zero_add] at hs
            refine Z.lb 1 rfl ?_
            refine Z.lnil ?_
            refine Z.only [1, 2, 4, 5, 6, 9, 15, 16] rfl ?_
            refine Z.nthen ?_
            refine Z.seq ?_
            refine Z.region ?_
            refine Z.l rfl rfl (by rfl) (Z.keepS hs) (by first | exact Z.Yd.loadA _ rfl Try.isAgg28 (fun _ => Z.cellsB (by first | ((repeat (first | exact List.mem_cons_self | refine List.mem_cons_of_mem _ ?_ | refine List.mem_append_right _ ?_)); done) | fail)) (by exact Try.sizeOf28) | fail "load 6.0") ?_
            refine Z.l rfl rfl (by rfl) (Z.keepS hs) (by first | exact Z.Yd.loadA _ rfl Try.isAgg28 (fun _ => Z.cellsB (by first | ((repeat (first | exact List.mem_cons_self | refine List.mem_cons_of_mem _ ?_ | refine List.mem_append_right _ ?_)); done) | fail)) (by exact Try.sizeOf28) | fail "load 6.1") ?_
            refine Z.l rfl rfl (by rfl) (Z.keepS hs) (Z.Yd.neA (.st (.fc 0 1 (.b) (.fc 1 1 (.i) (.fc 2 4 (.ar 4 1 (.i)) (.fn))))) rfl rfl rfl rfl (by kernel_rfl) (by kernel_rfl) rfl) ?_
            refine Z.lb 1 rfl ?_
            refine Z.yes (s := 63) (b := false) rfl ((by simp)) rfl ?_
            refine Z.lb 1 rfl ?_
            refine Z.yes (s := 63) (b := false) rfl rfl rfl ?_
            refine Z.le rfl (by exact ⟨rfl, trivial⟩) ?_
            refine Z.ZO.call rfl rfl (by rfl) rfl rfl Try.call17 rfl (num24 _ _) ?_
            rintro v6_5 w6_5 ⟨rfl, hy⟩
            replace hs := hs.call hy
            clear hy
            try simp only [List.cons_append, List.nil_append, List.append_nil] at hs
            refine Z.lb 1 rfl ?_
            refine Z.yes (s := 63) (b := false) rfl rfl rfl ?_
            refine Z.l rfl rfl (by rfl) (Z.keepS hs) (Z.Yd.pickF rfl rfl) ?_
            refine Z.lnil ?_
            refine Z.only [1, 2, 4, 5, 9, 67] rfl ?_
            refine Z.nthen ?_
            refine Z.cond rfl (fun h => absurd h (by simp)) (fun hc6 => ?_)
            refine Z.skip ?_
            refine Z.nthen ?_
            first | exact Z.meet 0 (by refine ⟨?_, ?_, ?_, ?_, ?_, trivial⟩ <;> (first | rfl | (refine Z.lookv rfl ?_; simp; done) | (refine Z.lookv rfl ?_; simp; omega))) (hs.sel [3, 4] (by decide)) | exact Z.meet 0 (by refine ⟨?_, ?_, ?_, ?_, ?_, trivial⟩ <;> (first | rfl | (refine Z.lookv rfl ?_; simp; done) | (refine Z.lookv rfl ?_; simp; omega))) (hs.sel [2, 3] (by decide))
            )
      · first
          | (exfalso; simp at hc4 <;> omega)
          | (
            (try simp at hc4)
            refine Z.skip ?_
            refine Z.nthen ?_
            first | exact Z.meet 0 (by refine ⟨?_, ?_, ?_, ?_, ?_, trivial⟩ <;> (first | rfl | (refine Z.lookv rfl ?_; simp; done) | (refine Z.lookv rfl ?_; simp; omega))) (hs.sel [3, 4] (by decide)) | exact Z.meet 0 (by refine ⟨?_, ?_, ?_, ?_, ?_, trivial⟩ <;> (first | rfl | (refine Z.lookv rfl ?_; simp; done) | (refine Z.lookv rfl ?_; simp; omega))) (hs.sel [2, 3] (by decide))
            )
    · clear hs
      rintro _ w4 hs
      refine Z.only [1, 2, 4, 5, 9] rfl ?_
      refine Z.seq ?_
      refine Z.seq ?_
      refine Z.region ?_
      refine Z.lb 1 rfl ?_
      refine Z.le rfl trivial ?_
      refine Z.ZO.call rfl rfl (by rfl) rfl rfl Try.call18 rfl (encpow_en h _) ?_
      rintro v8_1 w8_1 ⟨B2, c2, co2, rfl, hy⟩
      replace hs := hs.call hy
      clear hy
      try simp only [List.cons_append, List.nil_append, List.append_nil] at hs
      refine Z.lb 3 rfl ?_
      refine Z.le rfl trivial ?_
      refine Z.ZO.alloc rfl rfl (by rfl) Try.zeroValue31 rfl hs ?_
      clear hs; intro g17 w17 hs
      refine Z.le rfl trivial ?_
      first | refine Z.ZO.storeA rfl rfl hs rfl rfl (by kernel_rfl) (by first | (simp [Value.oneCell']; done) | (refine Z.all_one ?_; assumption)) (by first | exact SX.at0 | exact SX.at1 | exact SX.at2 | exact SX.at3 | exact SX.at4 | exact SX.at5 | exact Z.at6 | exact Z.at7 | exact Z.at8 | exact Z.at9 | exact Z.at10 | exact Z.at11 | exact Z.at12) (by rfl) ?_ | refine Z.ZO.storeP rfl rfl hs rfl rfl (by kernel_rfl) (by first | (simp [Value.oneCell']; done) | (refine Z.all_one ?_; assumption)) (by first | exact SX.at0 | exact SX.at1 | exact SX.at2 | exact SX.at3 | exact SX.at4 | exact SX.at5 | exact Z.at6 | exact Z.at7 | exact Z.at8 | exact Z.at9 | exact Z.at10 | exact Z.at11 | exact Z.at12) (by first | decide | (simp; done) | (simp; omega)) ?_ | refine Z.ZO.storePR rfl rfl hs rfl rfl (by kernel_rfl) (by first | (simp [Value.oneCell']; done) | (refine Z.all_one ?_; assumption)) (by first | exact SX.at0 | exact SX.at1 | exact SX.at2 | exact SX.at3 | exact SX.at4 | exact SX.at5 | exact Z.at6 | exact Z.at7 | exact Z.at8 | exact Z.at9 | exact Z.at10 | exact Z.at11 | exact Z.at12) (by first | decide | (simp; done) | (simp; omega)) ?_
      clear hs; intro ws hs
      simp only [Nat.zero_add, Nat.add_zero, Nat.reduceAdd, Int.reduceToNat, Nat.reduceMul, List.set_cons_zero, List.set_cons_succ, List.setIfInBounds_toArray] at hs
      try simp only [Z.putL, Nat.zero_add] at hs
      refine Z.lb 1 rfl ?_
      refine Z.lnil ?_
      refine Z.only [1, 2, 4, 5, 9, 17, 18] rfl ?_
      refine Z.nthen ?_
      refine Z.seq ?_
      refine Z.region ?_
      refine Z.lb 1 rfl ?_
      refine Z.le rfl trivial ?_
      refine Z.ZO.call rfl rfl (by rfl) rfl rfl Try.call17 rfl (num24 _ _) ?_
      rintro v9_1 w9_1 ⟨rfl, hy⟩
      replace hs := hs.call hy
      clear hy
      try simp only [List.cons_append, List.nil_append, List.append_nil] at hs
      refine Z.lb 1 rfl ?_
      refine Z.lnil ?_
      refine Z.only [1, 2, 4, 5, 9, 17, 75] rfl ?_
      refine Z.nthen ?_
      refine Z.cutt (ι := Nat) [2, 4, 5, 9] rfl (fun _ => []) (fun _ wr => SX.St w [] wr [SX.Ent.blk g9 31 #[.int .i64 lc, .slice A m c], SX.Ent.blk g6 28 r.cells.toArray]) ?_ ?_
      · skip
        refine Z.cond rfl (fun hc9 => ?_) (fun hc9 => ?_)
        · first
            | (exfalso; simp at hc9 <;> omega)
            | (
              (try simp at hc9)
              have hr : 0 ≤ h ∧ h ≤ 63 := by assumption
              obtain ⟨rb1, rb2⟩ := pow_back hr
              refine Z.seq ?_
              refine Z.region ?_
              refine Z.l rfl rfl (by rfl) (Z.keepS hs) (by first | exact Z.Yd.loadA _ rfl Try.isAgg31 (fun _ => Z.cellsB (by first | ((repeat (first | exact List.mem_cons_self | refine List.mem_cons_of_mem _ ?_ | refine List.mem_append_right _ ?_)); done) | fail)) (by exact Try.sizeOf31) | fail "load 10.0") ?_
              refine Z.le rfl trivial ?_
              refine Z.ZO.call rfl rfl (by rfl) rfl rfl Try.call24 rfl (decpow_any _ B2 _ c2 _ _ ((hs.slm (by first | ((repeat (first | exact List.mem_cons_self | refine List.mem_cons_of_mem _ ?_ | refine List.mem_append_right _ ?_)); done) | fail)).sx) rfl (pow_len h) (pow_b h)) ?_
              rintro v10_1 w10_1 ⟨rfl, hy⟩
              replace hs := hs.call hy
              clear hy
              try simp only [List.cons_append, List.nil_append, List.append_nil] at hs
              rw [if_pos hr, if_pos hr, rb1, rb2]
              refine Z.lb 5 rfl ?_
              refine Z.lnil ?_
              refine Z.only [1, 2, 4, 5, 9, 19, 20] rfl ?_
              refine Z.nthen ?_
              refine Z.seq ?_
              refine Z.region ?_
              refine Z.lb 3 rfl ?_
              refine Z.le rfl trivial ?_
              refine Z.ZO.call rfl rfl (by rfl) rfl rfl Try.call29 rfl (counts24 _ _ _ _ _) ?_
              rintro v11_3 w11_3 ⟨rfl, hy⟩
              replace hs := hs.call hy
              clear hy
              try simp only [List.cons_append, List.nil_append, List.append_nil] at hs
              refine Z.lb 1 rfl ?_
              refine Z.lnil ?_
              refine Z.only [2, 4, 5, 9, 85] rfl ?_
              refine Z.nthen ?_
              refine Z.cond rfl (fun h => absurd h (by simp)) (fun hc11 => ?_)
              refine Z.skip ?_
              refine Z.nthen ?_
              exact Z.meet 0 (by refine ⟨?_, ?_, ?_, ?_, trivial⟩ <;> (first | rfl | (refine Z.lookv rfl ?_; simp; done) | (refine Z.lookv rfl ?_; simp; omega))) (hs.sel [2, 3] (by decide))
              )
        · first
            | (exfalso; simp at hc9 <;> omega)
            | (
              (try simp at hc9)
              refine Z.skip ?_
              refine Z.nthen ?_
              exact Z.meet 0 (by refine ⟨?_, ?_, ?_, ?_, trivial⟩ <;> (first | rfl | (refine Z.lookv rfl ?_; simp; done) | (refine Z.lookv rfl ?_; simp; omega))) (hs.sel [2, 3] (by decide))
              )
      · clear hs
        rintro _ w9 hs
        refine Z.only [2, 4, 5, 9] rfl ?_
        refine Z.seq ?_
        refine Z.seq ?_
        refine Z.region ?_
        refine Z.lb 1 rfl ?_
        refine Z.lnil ?_
        refine Z.only [2, 4, 5, 9, 21] rfl ?_
        refine Z.nthen ?_
        refine Z.block ?_
        refine Z.loopk (ι := Nat) [2, 4, 5, 9] rfl (fun j => [(21, [], .int .i64 (27 + (j : Int)))]) (fun j wr => j ≤ 2 ∧ SX.St w [] wr [SX.Ent.blk g9 31 #[.int .i64 lc, .slice A m c], SX.Ent.blk g6 28 r.cells.toArray]) (fun j => 2 - j) 0 (by refine ⟨?_, trivial⟩ <;> (first | rfl | (refine Z.lookv rfl ?_; simp; done) | (refine Z.lookv rfl ?_; simp; omega))) ⟨by omega, hs⟩ ?_
        clear hs
        rintro j w13 ⟨hj, hs⟩
        refine Z.only [2, 4, 5, 9, 21] rfl ?_
        refine Z.seq ?_
        refine Z.seq ?_
        refine Z.region ?_
        refine Z.lb 2 rfl ?_
        refine Z.lnil ?_
        refine Z.only [2, 4, 5, 9, 21, 87] rfl ?_
        refine Z.nthen ?_
        refine Z.cond rfl (fun hc14 => ?_) (fun hc14 => ?_)
        · first
            | (exfalso; simp at hc14 <;> omega)
            | (
              (try simp at hc14)
              refine Z.skip ?_
              refine Z.nthen ?_
              refine Z.seq ?_
              refine Z.block ?_
              refine Z.seq ?_
              refine Z.region ?_
              refine Z.lb 2 rfl ?_
              refine Z.le rfl trivial ?_
              refine Z.ZO.call rfl rfl (by rfl) rfl rfl Try.call19 rfl (encid_en _ id _ hid) ?_
              rintro v16_2 w16_2 ⟨B3, c3, co3, rfl, hy⟩
              replace hs := hs.call hy
              clear hy
              try simp only [List.cons_append, List.nil_append, List.append_nil] at hs
              refine Z.lb 3 rfl ?_
              refine Z.le rfl trivial ?_
              refine Z.ZO.alloc rfl rfl (by rfl) Try.zeroValue31 rfl hs ?_
              clear hs; intro g22 w22 hs
              refine Z.le rfl trivial ?_
              first | refine Z.ZO.storeA rfl rfl hs rfl rfl (by kernel_rfl) (by first | (simp [Value.oneCell']; done) | (refine Z.all_one ?_; assumption)) (by first | exact SX.at0 | exact SX.at1 | exact SX.at2 | exact SX.at3 | exact SX.at4 | exact SX.at5 | exact Z.at6 | exact Z.at7 | exact Z.at8 | exact Z.at9 | exact Z.at10 | exact Z.at11 | exact Z.at12) (by rfl) ?_ | refine Z.ZO.storeP rfl rfl hs rfl rfl (by kernel_rfl) (by first | (simp [Value.oneCell']; done) | (refine Z.all_one ?_; assumption)) (by first | exact SX.at0 | exact SX.at1 | exact SX.at2 | exact SX.at3 | exact SX.at4 | exact SX.at5 | exact Z.at6 | exact Z.at7 | exact Z.at8 | exact Z.at9 | exact Z.at10 | exact Z.at11 | exact Z.at12) (by first | decide | (simp; done) | (simp; omega)) ?_ | refine Z.ZO.storePR rfl rfl hs rfl rfl (by kernel_rfl) (by first | (simp [Value.oneCell']; done) | (refine Z.all_one ?_; assumption)) (by first | exact SX.at0 | exact SX.at1 | exact SX.at2 | exact SX.at3 | exact SX.at4 | exact SX.at5 | exact Z.at6 | exact Z.at7 | exact Z.at8 | exact Z.at9 | exact Z.at10 | exact Z.at11 | exact Z.at12) (by first | decide | (simp; done) | (simp; omega)) ?_
              clear hs; intro ws hs
              simp only [Nat.zero_add, Nat.add_zero, Nat.reduceAdd, Int.reduceToNat, Nat.reduceMul, List.set_cons_zero, List.set_cons_succ, List.setIfInBounds_toArray] at hs
              try simp only [Z.putL, Nat.zero_add] at hs
              refine Z.lb 1 rfl ?_
              refine Z.lnil ?_
              refine Z.only [2, 4, 5, 9, 21, 22, 23] rfl ?_
              refine Z.nthen ?_
              refine Z.seq ?_
              refine Z.region ?_
              refine Z.lb 1 rfl ?_
              refine Z.le rfl trivial ?_
              refine Z.ZO.call rfl rfl (by rfl) rfl rfl Try.call17 rfl (num24 _ _) ?_
              rintro v17_1 w17_1 ⟨rfl, hy⟩
              replace hs := hs.call hy
              clear hy
              try simp only [List.cons_append, List.nil_append, List.append_nil] at hs
              refine Z.lb 1 rfl ?_
              refine Z.lnil ?_
              refine Z.only [2, 4, 5, 9, 21, 22, 98] rfl ?_
              refine Z.nthen ?_
              refine Z.cond rfl (fun hc17 => ?_) (fun hc17 => ?_)
              · first
                  | (exfalso; simp at hc17 <;> omega)
                  | (
                    (try simp at hc17)
                    have hr : idOk (27 + (j : Int)) id := by assumption
                    obtain ⟨rb1, rb2⟩ := id_back hr.1 hr.2
                    refine Z.seq ?_
                    refine Z.region ?_
                    refine Z.l rfl rfl (by rfl) (Z.keepS hs) (by first | exact Z.Yd.loadA _ rfl Try.isAgg31 (fun _ => Z.cellsB (by first | ((repeat (first | exact List.mem_cons_self | refine List.mem_cons_of_mem _ ?_ | refine List.mem_append_right _ ?_)); done) | fail)) (by exact Try.sizeOf31) | fail "load 18.0") ?_
                    refine Z.le rfl trivial ?_
                    refine Z.ZO.call rfl rfl (by rfl) rfl rfl Try.call25 rfl (decid_any _ B3 _ c3 _ _ ((hs.slm (by first | ((repeat (first | exact List.mem_cons_self | refine List.mem_cons_of_mem _ ?_ | refine List.mem_append_right _ ?_)); done) | fail)).sx) rfl (id_len _ id) (id_b _ id)) ?_
                    rintro v18_1 w18_1 ⟨rfl, hy⟩
                    replace hs := hs.call hy
                    clear hy
                    try simp only [List.cons_append, List.nil_append, List.append_nil] at hs
                    rw [if_pos hr, if_pos hr, rb1, rb2]
                    refine Z.lb 5 rfl ?_
                    refine Z.lnil ?_
                    refine Z.only [2, 4, 5, 9, 21, 24, 25] rfl ?_
                    refine Z.nthen ?_
                    refine Z.seq ?_
                    refine Z.region ?_
                    refine Z.lb 4 rfl ?_
                    refine Z.yes (s := 107) (b := false) rfl ((by simp)) rfl ?_
                    refine Z.lb 1 rfl ?_
                    refine Z.yes (s := 107) (b := false) rfl rfl rfl ?_
                    refine Z.le rfl (by exact ⟨rfl, trivial⟩) ?_
                    refine Z.ZO.call rfl rfl (by rfl) rfl rfl Try.call17 rfl (num24 _ _) ?_
                    rintro v19_5 w19_5 ⟨rfl, hy⟩
                    replace hs := hs.call hy
                    clear hy
                    try simp only [List.cons_append, List.nil_append, List.append_nil] at hs
                    refine Z.lb 1 rfl ?_
                    refine Z.yes (s := 107) (b := false) rfl rfl rfl ?_
                    refine Z.l rfl rfl (by rfl) (Z.keepS hs) (Z.Yd.pickF rfl rfl) ?_
                    refine Z.lnil ?_
                    refine Z.only [2, 4, 5, 9, 21, 111] rfl ?_
                    refine Z.nthen ?_
                    refine Z.cond rfl (fun h => absurd h (by simp)) (fun hc19 => ?_)
                    refine Z.skip ?_
                    refine Z.nblock ?_
                    refine Z.nthen ?_
                    refine Z.region ?_
                    refine Z.lb 1 rfl ?_
                    refine Z.l rfl rfl (by rfl) (Z.keepS hs) (Z.Yd.add rfl rfl (fun hG => Z.wi64 (by first | omega | (have hG' := Z.gh rfl hG; simp at hG'; omega)))) ?_
                    refine Z.lb 1 rfl ?_
                    refine Z.lnil ?_
                    refine Z.only [2, 4, 5, 9, 21] rfl ?_
                    refine Z.nthen ?_
                    exact Z.again (j + 1) (by refine ⟨?_, ?_, ?_, ?_, ?_, trivial⟩ <;> (first | rfl | (refine Z.lookv rfl ?_; simp; done) | (refine Z.lookv rfl ?_; simp; omega))) ⟨by omega, hs.sel [2, 3] (by decide)⟩ (by omega)
                    )
              · first
                  | (exfalso; simp at hc17 <;> omega)
                  | (
                    (try simp at hc17)
                    refine Z.skip ?_
                    refine Z.nblock ?_
                    refine Z.nthen ?_
                    refine Z.region ?_
                    refine Z.lb 1 rfl ?_
                    refine Z.l rfl rfl (by rfl) (Z.keepS hs) (Z.Yd.add rfl rfl (fun hG => Z.wi64 (by first | omega | (have hG' := Z.gh rfl hG; simp at hG'; omega)))) ?_
                    refine Z.lb 1 rfl ?_
                    refine Z.lnil ?_
                    refine Z.only [2, 4, 5, 9, 21] rfl ?_
                    refine Z.nthen ?_
                    exact Z.again (j + 1) (by refine ⟨?_, ?_, ?_, ?_, ?_, trivial⟩ <;> (first | rfl | (refine Z.lookv rfl ?_; simp; done) | (refine Z.lookv rfl ?_; simp; omega))) ⟨by omega, hs.sel [2, 3] (by decide)⟩ (by omega)
                    )
              )
        · first
            | (exfalso; simp at hc14 <;> omega)
            | (
              (try simp at hc14)
              refine Z.exit ?_
              refine Z.xthen ?_
              refine Z.xthen ?_
              refine Z.xblock ?_
              refine Z.nthen ?_
              refine Z.seq ?_
              refine Z.seq ?_
              refine Z.region ?_
              refine Z.l rfl rfl (by rfl) (Z.keepS hs) (by first | exact Z.Yd.loadA _ rfl Try.isAgg31 (fun _ => Z.cellsB (by first | ((repeat (first | exact List.mem_cons_self | refine List.mem_cons_of_mem _ ?_ | refine List.mem_append_right _ ?_)); done) | fail)) (by exact Try.sizeOf31) | fail "load 21.0") ?_
              refine Z.le rfl trivial ?_
              refine Z.ZO.call rfl rfl (by rfl) rfl rfl Try.call23 rfl (decrep_any lc A m c l _ ((hx.st (hs.sub (List.nil_sublist _))).sx) hl (by omega) hb) ?_
              rintro v21_1 w21_1 ⟨rfl, hy⟩
              replace hs := hs.call hy
              clear hy
              try simp only [List.cons_append, List.nil_append, List.append_nil] at hs
              refine Z.lb 3 rfl ?_
              refine Z.le rfl trivial ?_
              refine Z.ZO.alloc rfl rfl (by rfl) Try.zeroValue28 rfl hs ?_
              clear hs; intro g26 w26 hs
              refine Z.le rfl trivial ?_
              first | refine Z.ZO.storeA rfl rfl hs rfl rfl (by kernel_rfl) (by first | (simp [Value.oneCell']; done) | (refine Z.all_one ?_; assumption)) (by first | exact SX.at0 | exact SX.at1 | exact SX.at2 | exact SX.at3 | exact SX.at4 | exact SX.at5 | exact Z.at6 | exact Z.at7 | exact Z.at8 | exact Z.at9 | exact Z.at10 | exact Z.at11 | exact Z.at12) (by rfl) ?_ | refine Z.ZO.storeP rfl rfl hs rfl rfl (by kernel_rfl) (by first | (simp [Value.oneCell']; done) | (refine Z.all_one ?_; assumption)) (by first | exact SX.at0 | exact SX.at1 | exact SX.at2 | exact SX.at3 | exact SX.at4 | exact SX.at5 | exact Z.at6 | exact Z.at7 | exact Z.at8 | exact Z.at9 | exact Z.at10 | exact Z.at11 | exact Z.at12) (by first | decide | (simp; done) | (simp; omega)) ?_ | refine Z.ZO.storePR rfl rfl hs rfl rfl (by kernel_rfl) (by first | (simp [Value.oneCell']; done) | (refine Z.all_one ?_; assumption)) (by first | exact SX.at0 | exact SX.at1 | exact SX.at2 | exact SX.at3 | exact SX.at4 | exact SX.at5 | exact Z.at6 | exact Z.at7 | exact Z.at8 | exact Z.at9 | exact Z.at10 | exact Z.at11 | exact Z.at12) (by first | decide | (simp; done) | (simp; omega)) ?_
              clear hs; intro ws hs
              simp only [Nat.zero_add, Nat.add_zero, Nat.reduceAdd, Int.reduceToNat, Nat.reduceMul, List.set_cons_zero, List.set_cons_succ, List.setIfInBounds_toArray] at hs
              try simp only [Z.putL, Nat.zero_add] at hs
              refine Z.lb 1 rfl ?_
              refine Z.lnil ?_
              refine Z.only [4, 5, 9, 26, 27] rfl ?_
              refine Z.nthen ?_
              refine Z.seq ?_
              refine Z.region ?_
              refine Z.lb 1 rfl ?_
              refine Z.le rfl trivial ?_
              refine Z.ZO.call rfl rfl (by rfl) rfl rfl Try.call17 rfl (num24 _ _) ?_
              rintro v22_1 w22_1 ⟨rfl, hy⟩
              replace hs := hs.call hy
              clear hy
              try simp only [List.cons_append, List.nil_append, List.append_nil] at hs
              refine Z.lb 1 rfl ?_
              refine Z.lnil ?_
              refine Z.only [4, 5, 9, 26, 119] rfl ?_
              refine Z.nthen ?_
              refine Z.cutt (ι := Nat) [4, 5, 9] rfl (fun _ => []) (fun _ wr => SX.St w [] wr [SX.Ent.blk g9 31 #[.int .i64 lc, .slice A m c], SX.Ent.blk g6 28 r.cells.toArray]) ?_ ?_
              · skip
                refine Z.cond rfl (fun hc22 => ?_) (fun hc22 => ?_)
                · first
                    | (exfalso; simp at hc22 <;> omega)
                    | (
                      (try simp at hc22)
                      have hr : repE lc l = 0 := by assumption
                      obtain ⟨rf1, rf2, rf3⟩ := rep_forth hb hr
                      refine Z.seq ?_
                      refine Z.region ?_
                      refine Z.l rfl rfl (by rfl) (Z.keepS hs) (by first | exact Z.Yd.loadA _ rfl Try.isAgg28 (fun _ => Z.cellsB (by first | ((repeat (first | exact List.mem_cons_self | refine List.mem_cons_of_mem _ ?_ | refine List.mem_append_right _ ?_)); done) | fail)) (by exact Try.sizeOf28) | fail "load 23.0") ?_
                      refine Z.le rfl trivial ?_
                      refine Z.ZO.call rfl rfl (by rfl) rfl rfl Try.call14 rfl (encrep_en _ _) ?_
                      rintro v23_1 w23_1 ⟨B4, c4, co4, rfl, hy⟩
                      replace hs := hs.call hy
                      clear hy
                      try simp only [List.cons_append, List.nil_append, List.append_nil] at hs
                      rw [if_pos rf1, if_pos rf1, rf2]
                      simp only [if_pos rf1, rf3] at hs ⊢
                      refine Z.lb 3 rfl ?_
                      refine Z.le rfl trivial ?_
                      refine Z.ZO.alloc rfl rfl (by rfl) Try.zeroValue31 rfl hs ?_
                      clear hs; intro g28 w28 hs
                      refine Z.le rfl trivial ?_
                      first | refine Z.ZO.storeA rfl rfl hs rfl rfl (by kernel_rfl) (by first | (simp [Value.oneCell']; done) | (refine Z.all_one ?_; assumption)) (by first | exact SX.at0 | exact SX.at1 | exact SX.at2 | exact SX.at3 | exact SX.at4 | exact SX.at5 | exact Z.at6 | exact Z.at7 | exact Z.at8 | exact Z.at9 | exact Z.at10 | exact Z.at11 | exact Z.at12) (by rfl) ?_ | refine Z.ZO.storeP rfl rfl hs rfl rfl (by kernel_rfl) (by first | (simp [Value.oneCell']; done) | (refine Z.all_one ?_; assumption)) (by first | exact SX.at0 | exact SX.at1 | exact SX.at2 | exact SX.at3 | exact SX.at4 | exact SX.at5 | exact Z.at6 | exact Z.at7 | exact Z.at8 | exact Z.at9 | exact Z.at10 | exact Z.at11 | exact Z.at12) (by first | decide | (simp; done) | (simp; omega)) ?_ | refine Z.ZO.storePR rfl rfl hs rfl rfl (by kernel_rfl) (by first | (simp [Value.oneCell']; done) | (refine Z.all_one ?_; assumption)) (by first | exact SX.at0 | exact SX.at1 | exact SX.at2 | exact SX.at3 | exact SX.at4 | exact SX.at5 | exact Z.at6 | exact Z.at7 | exact Z.at8 | exact Z.at9 | exact Z.at10 | exact Z.at11 | exact Z.at12) (by first | decide | (simp; done) | (simp; omega)) ?_
                      clear hs; intro ws hs
                      simp only [Nat.zero_add, Nat.add_zero, Nat.reduceAdd, Int.reduceToNat, Nat.reduceMul, List.set_cons_zero, List.set_cons_succ, List.setIfInBounds_toArray] at hs
                      try simp only [Z.putL, Nat.zero_add] at hs
                      refine Z.lb 1 rfl ?_
                      refine Z.lnil ?_
                      refine Z.only [4, 5, 9, 28, 29] rfl ?_
                      refine Z.nthen ?_
                      refine Z.seq ?_
                      refine Z.region ?_
                      refine Z.l rfl rfl (by rfl) (Z.keepS hs) (by first | exact Z.Yd.loadA _ rfl Try.isAgg31 (fun _ => Z.cellsB (by first | ((repeat (first | exact List.mem_cons_self | refine List.mem_cons_of_mem _ ?_ | refine List.mem_append_right _ ?_)); done) | fail)) (by exact Try.sizeOf31) | fail "load 24.0") ?_
                      refine Z.l rfl rfl (by rfl) (Z.keepS hs) (by first | exact Z.Yd.loadA _ rfl Try.isAgg31 (fun _ => Z.cellsB (by first | ((repeat (first | exact List.mem_cons_self | refine List.mem_cons_of_mem _ ?_ | refine List.mem_append_right _ ?_)); done) | fail)) (by exact Try.sizeOf31) | fail "load 24.1") ?_
                      refine Z.le rfl trivial ?_
                      refine Z.ZO.call rfl rfl (by rfl) rfl rfl Try.call16 rfl (same24 _ _ _ _ _ _ _ _ l l _ (hs.slm (by first | ((repeat (first | exact List.mem_cons_self | refine List.mem_cons_of_mem _ ?_ | refine List.mem_append_right _ ?_)); done) | fail)) (hx.st (hs.sub (List.nil_sublist _))) rfl hl hb hb) ?_
                      rintro v24_2 w24_2 ⟨rfl, hy⟩
                      replace hs := hs.call hy
                      clear hy
                      try simp only [List.cons_append, List.nil_append, List.append_nil] at hs
                      refine Z.lb 2 rfl ?_
                      refine Z.yes (s := 129) (b := false) rfl ((by simp)) rfl ?_
                      refine Z.lb 1 rfl ?_
                      refine Z.yes (s := 129) (b := false) rfl rfl rfl ?_
                      refine Z.le rfl (by exact ⟨rfl, trivial⟩) ?_
                      refine Z.ZO.call rfl rfl (by rfl) rfl rfl Try.call17 rfl (num24 _ _) ?_
                      rintro v24_6 w24_6 ⟨rfl, hy⟩
                      replace hs := hs.call hy
                      clear hy
                      try simp only [List.cons_append, List.nil_append, List.append_nil] at hs
                      refine Z.lb 1 rfl ?_
                      refine Z.yes (s := 129) (b := false) rfl rfl rfl ?_
                      refine Z.l rfl rfl (by rfl) (Z.keepS hs) (Z.Yd.pickF rfl rfl) ?_
                      refine Z.lnil ?_
                      refine Z.only [4, 5, 9, 133] rfl ?_
                      refine Z.nthen ?_
                      refine Z.cond rfl (fun h => absurd h (by simp)) (fun hc24 => ?_)
                      refine Z.skip ?_
                      refine Z.nthen ?_
                      first | exact Z.meet 0 (by refine ⟨?_, ?_, ?_, trivial⟩ <;> (first | rfl | (refine Z.lookv rfl ?_; simp; done) | (refine Z.lookv rfl ?_; simp; omega))) (hs.sel [3, 4] (by decide)) | exact Z.meet 0 (by refine ⟨?_, ?_, ?_, trivial⟩ <;> (first | rfl | (refine Z.lookv rfl ?_; simp; done) | (refine Z.lookv rfl ?_; simp; omega))) (hs.sel [1, 2] (by decide))
                      )
                · first
                    | (exfalso; simp at hc22 <;> omega)
                    | (
                      (try simp at hc22)
                      refine Z.skip ?_
                      refine Z.nthen ?_
                      first | exact Z.meet 0 (by refine ⟨?_, ?_, ?_, trivial⟩ <;> (first | rfl | (refine Z.lookv rfl ?_; simp; done) | (refine Z.lookv rfl ?_; simp; omega))) (hs.sel [3, 4] (by decide)) | exact Z.meet 0 (by refine ⟨?_, ?_, ?_, trivial⟩ <;> (first | rfl | (refine Z.lookv rfl ?_; simp; done) | (refine Z.lookv rfl ?_; simp; omega))) (hs.sel [1, 2] (by decide))
                      )
              · clear hs
                rintro _ w22 hs
                refine Z.only [4, 5, 9] rfl ?_
                refine Z.seq ?_
                refine Z.seq ?_
                refine Z.region ?_
                refine Z.l rfl rfl (by rfl) (Z.keepS hs) (by first | exact Z.Yd.loadA _ rfl Try.isAgg31 (fun _ => Z.cellsB (by first | ((repeat (first | exact List.mem_cons_self | refine List.mem_cons_of_mem _ ?_ | refine List.mem_append_right _ ?_)); done) | fail)) (by exact Try.sizeOf31) | fail "load 26.0") ?_
                refine Z.le rfl trivial ?_
                refine Z.ZO.call rfl rfl (by rfl) rfl rfl Try.call25 rfl (decid_any lc A m c l _ ((hx.st (hs.sub (List.nil_sublist _))).sx) hl (by omega) hb) ?_
                rintro v26_1 w26_1 ⟨rfl, hy⟩
                replace hs := hs.call hy
                clear hy
                try simp only [List.cons_append, List.nil_append, List.append_nil] at hs
                refine Z.lb 5 rfl ?_
                refine Z.lnil ?_
                refine Z.only [4, 5, 9, 30, 31] rfl ?_
                refine Z.nthen ?_
                refine Z.seq ?_
                refine Z.region ?_
                refine Z.lb 1 rfl ?_
                refine Z.le rfl trivial ?_
                refine Z.ZO.call rfl rfl (by rfl) rfl rfl Try.call17 rfl (num24 _ _) ?_
                rintro v27_1 w27_1 ⟨rfl, hy⟩
                replace hs := hs.call hy
                clear hy
                try simp only [List.cons_append, List.nil_append, List.append_nil] at hs
                refine Z.lb 1 rfl ?_
                refine Z.lnil ?_
                refine Z.only [4, 5, 9, 30, 141] rfl ?_
                refine Z.nthen ?_
                refine Z.cutt (ι := Nat) [4, 5] rfl (fun _ => []) (fun _ wr => SX.St w [] wr [SX.Ent.blk g9 31 #[.int .i64 lc, .slice A m c], SX.Ent.blk g6 28 r.cells.toArray]) ?_ ?_
                · skip
                  refine Z.cond rfl (fun hc27 => ?_) (fun hc27 => ?_)
                  · first
                      | (exfalso; simp at hc27 <;> omega)
                      | (
                        (try simp at hc27)
                        have hr : idE lc l = 0 := by assumption
                        obtain ⟨rf1, id2, rf2, rf3, rf4, rf5⟩ := id_forth hb hr
                        have rf6 : idOk lc id2 := ⟨rf1, rf4⟩
                        have rf7 : idV lc l = (id2 : Int) := by unfold idV; rw [if_pos hr, rf2]
                        rw [rf7]
                        refine Z.seq ?_
                        refine Z.region ?_
                        refine Z.l rfl rfl (by rfl) (Z.keepS hs) (Z.Yd.fieldA (m := 0) rfl (by kernel_rfl)) ?_
                        refine Z.l rfl rfl (by rfl) (Z.keepS hs) (by first | exact Z.Yd.load rfl Try.isAgg3 (fun _ => Z.cellB (by first | ((repeat (first | exact List.mem_cons_self | refine List.mem_cons_of_mem _ ?_ | refine List.mem_append_right _ ?_)); done) | fail) rfl) | exact Z.Yd.load rfl Try.isAgg3 (fun _ => Z.cellO (by assumption) (by simp) (by assumption)) | fail "load 28.1") ?_
                        refine Z.lb 1 rfl ?_
                        refine Z.le rfl trivial ?_
                        refine Z.ZO.call rfl rfl (by rfl) rfl rfl Try.call19 rfl (encid_en lc id2 _ rf3) ?_
                        rintro v28_3 w28_3 ⟨B5, c5, co5, rfl, hy⟩
                        replace hs := hs.call hy
                        clear hy
                        try simp only [List.cons_append, List.nil_append, List.append_nil] at hs
                        rw [if_pos rf6, if_pos rf6]
                        simp only [if_pos rf6, rf5] at hs ⊢
                        refine Z.lb 3 rfl ?_
                        refine Z.le rfl trivial ?_
                        refine Z.ZO.alloc rfl rfl (by rfl) Try.zeroValue31 rfl hs ?_
                        clear hs; intro g32 w32 hs
                        refine Z.le rfl trivial ?_
                        first | refine Z.ZO.storeA rfl rfl hs rfl rfl (by kernel_rfl) (by first | (simp [Value.oneCell']; done) | (refine Z.all_one ?_; assumption)) (by first | exact SX.at0 | exact SX.at1 | exact SX.at2 | exact SX.at3 | exact SX.at4 | exact SX.at5 | exact Z.at6 | exact Z.at7 | exact Z.at8 | exact Z.at9 | exact Z.at10 | exact Z.at11 | exact Z.at12) (by rfl) ?_ | refine Z.ZO.storeP rfl rfl hs rfl rfl (by kernel_rfl) (by first | (simp [Value.oneCell']; done) | (refine Z.all_one ?_; assumption)) (by first | exact SX.at0 | exact SX.at1 | exact SX.at2 | exact SX.at3 | exact SX.at4 | exact SX.at5 | exact Z.at6 | exact Z.at7 | exact Z.at8 | exact Z.at9 | exact Z.at10 | exact Z.at11 | exact Z.at12) (by first | decide | (simp; done) | (simp; omega)) ?_ | refine Z.ZO.storePR rfl rfl hs rfl rfl (by kernel_rfl) (by first | (simp [Value.oneCell']; done) | (refine Z.all_one ?_; assumption)) (by first | exact SX.at0 | exact SX.at1 | exact SX.at2 | exact SX.at3 | exact SX.at4 | exact SX.at5 | exact Z.at6 | exact Z.at7 | exact Z.at8 | exact Z.at9 | exact Z.at10 | exact Z.at11 | exact Z.at12) (by first | decide | (simp; done) | (simp; omega)) ?_
                        clear hs; intro ws hs
                        simp only [Nat.zero_add, Nat.add_zero, Nat.reduceAdd, Int.reduceToNat, Nat.reduceMul, List.set_cons_zero, List.set_cons_succ, List.setIfInBounds_toArray] at hs
                        try simp only [Z.putL, Nat.zero_add] at hs
                        refine Z.lb 1 rfl ?_
                        refine Z.lnil ?_
                        refine Z.only [4, 5, 9, 32, 33] rfl ?_
                        refine Z.nthen ?_
                        refine Z.seq ?_
                        refine Z.region ?_
                        refine Z.l rfl rfl (by rfl) (Z.keepS hs) (by first | exact Z.Yd.loadA _ rfl Try.isAgg31 (fun _ => Z.cellsB (by first | ((repeat (first | exact List.mem_cons_self | refine List.mem_cons_of_mem _ ?_ | refine List.mem_append_right _ ?_)); done) | fail)) (by exact Try.sizeOf31) | fail "load 29.0") ?_
                        refine Z.l rfl rfl (by rfl) (Z.keepS hs) (by first | exact Z.Yd.loadA _ rfl Try.isAgg31 (fun _ => Z.cellsB (by first | ((repeat (first | exact List.mem_cons_self | refine List.mem_cons_of_mem _ ?_ | refine List.mem_append_right _ ?_)); done) | fail)) (by exact Try.sizeOf31) | fail "load 29.1") ?_
                        refine Z.le rfl trivial ?_
                        refine Z.ZO.call rfl rfl (by rfl) rfl rfl Try.call16 rfl (same24 _ _ _ _ _ _ _ _ l l _ (hs.slm (by first | ((repeat (first | exact List.mem_cons_self | refine List.mem_cons_of_mem _ ?_ | refine List.mem_append_right _ ?_)); done) | fail)) (hx.st (hs.sub (List.nil_sublist _))) rfl hl hb hb) ?_
                        rintro v29_2 w29_2 ⟨rfl, hy⟩
                        replace hs := hs.call hy
                        clear hy
                        try simp only [List.cons_append, List.nil_append, List.append_nil] at hs
                        refine Z.lb 2 rfl ?_
                        refine Z.yes (s := 153) (b := false) rfl ((by simp)) rfl ?_
                        refine Z.lb 1 rfl ?_
                        refine Z.yes (s := 153) (b := false) rfl rfl rfl ?_
                        refine Z.le rfl (by exact ⟨rfl, trivial⟩) ?_
                        refine Z.ZO.call rfl rfl (by rfl) rfl rfl Try.call17 rfl (num24 _ _) ?_
                        rintro v29_6 w29_6 ⟨rfl, hy⟩
                        replace hs := hs.call hy
                        clear hy
                        try simp only [List.cons_append, List.nil_append, List.append_nil] at hs
                        refine Z.lb 1 rfl ?_
                        refine Z.yes (s := 153) (b := false) rfl rfl rfl ?_
                        refine Z.l rfl rfl (by rfl) (Z.keepS hs) (Z.Yd.pickF rfl rfl) ?_
                        refine Z.lnil ?_
                        refine Z.only [4, 5, 157] rfl ?_
                        refine Z.nthen ?_
                        refine Z.cond rfl (fun h => absurd h (by simp)) (fun hc29 => ?_)
                        refine Z.skip ?_
                        refine Z.nthen ?_
                        first | exact Z.meet 0 (by refine ⟨?_, ?_, trivial⟩ <;> (first | rfl | (refine Z.lookv rfl ?_; simp; done) | (refine Z.lookv rfl ?_; simp; omega))) (hs.sel [2, 3] (by decide)) | exact Z.meet 0 (by refine ⟨?_, ?_, trivial⟩ <;> (first | rfl | (refine Z.lookv rfl ?_; simp; done) | (refine Z.lookv rfl ?_; simp; omega))) hs
                        )
                  · first
                      | (exfalso; simp at hc27 <;> omega)
                      | (
                        (try simp at hc27)
                        refine Z.skip ?_
                        refine Z.nthen ?_
                        first | exact Z.meet 0 (by refine ⟨?_, ?_, trivial⟩ <;> (first | rfl | (refine Z.lookv rfl ?_; simp; done) | (refine Z.lookv rfl ?_; simp; omega))) (hs.sel [2, 3] (by decide)) | exact Z.meet 0 (by refine ⟨?_, ?_, trivial⟩ <;> (first | rfl | (refine Z.lookv rfl ?_; simp; done) | (refine Z.lookv rfl ?_; simp; omega))) hs
                        )
                · clear hs
                  rintro _ w27 hs
                  refine Z.only [4, 5] rfl ?_
                  refine Z.seq ?_
                  refine Z.region ?_
                  refine Z.lb 1 rfl ?_
                  refine Z.le rfl trivial ?_
                  refine Z.ZO.call rfl rfl (by rfl) rfl rfl Try.call30 rfl (clevel_any x _) ?_
                  rintro v31_1 w31_1 ⟨rfl, hy⟩
                  replace hs := hs.call hy
                  clear hy
                  try simp only [List.cons_append, List.nil_append, List.append_nil] at hs
                  refine Z.lb 5 rfl ?_
                  refine Z.lnil ?_
                  refine Z.only [4, 5, 34, 35] rfl ?_
                  refine Z.nthen ?_
                  refine Z.seq ?_
                  refine Z.region ?_
                  refine Z.lb 1 rfl ?_
                  refine Z.le rfl trivial ?_
                  refine Z.ZO.call rfl rfl (by rfl) rfl rfl Try.call30 rfl (clevel_any y _) ?_
                  rintro v32_1 w32_1 ⟨rfl, hy⟩
                  replace hs := hs.call hy
                  clear hy
                  try simp only [List.cons_append, List.nil_append, List.append_nil] at hs
                  refine Z.lb 5 rfl ?_
                  refine Z.lnil ?_
                  refine Z.only [4, 5, 34, 35, 36, 37] rfl ?_
                  refine Z.nthen ?_
                  refine Z.seq ?_
                  refine Z.seq ?_
                  refine Z.region ?_
                  refine Z.lb 1 rfl ?_
                  refine Z.le rfl trivial ?_
                  refine Z.ZO.call rfl rfl (by rfl) rfl rfl Try.call17 rfl (num24 _ _) ?_
                  rintro v33_1 w33_1 ⟨rfl, hy⟩
                  replace hs := hs.call hy
                  clear hy
                  try simp only [List.cons_append, List.nil_append, List.append_nil] at hs
                  refine Z.lb 1 rfl ?_
                  refine Z.le rfl trivial ?_
                  refine Z.ZO.call rfl rfl (by rfl) rfl rfl Try.call17 rfl (num24 _ _) ?_
                  rintro v33_3 w33_3 ⟨rfl, hy⟩
                  replace hs := hs.call hy
                  clear hy
                  try simp only [List.cons_append, List.nil_append, List.append_nil] at hs
                  refine Z.l rfl rfl (by rfl) (Z.keepS hs) (Z.Yd.add rfl rfl (fun hG => Z.wi64 (by first | omega | (have hG' := Z.gh rfl hG; simp at hG'; omega)))) ?_
                  refine Z.lb 1 rfl ?_
                  refine Z.lnil ?_
                  refine Z.only [4, 5, 34, 36, 173] rfl ?_
                  refine Z.nthen ?_
                  refine Z.cond rfl (fun hc33 => ?_) (fun hc33 => ?_)
                  · first
                      | (exfalso; simp at hc33 <;> omega)
                      | (
                        (try simp at hc33)
                        refine Z.seq ?_
                        refine Z.region ?_
                        refine Z.le rfl trivial ?_
                        refine Z.ZO.call rfl rfl (by rfl) rfl rfl Try.call12 rfl (works24 _) ?_
                        rintro v34_0 w34_0 ⟨rfl, hy⟩
                        replace hs := hs.call hy
                        clear hy
                        try simp only [List.cons_append, List.nil_append, List.append_nil] at hs
                        refine Z.lb 1 rfl ?_
                        refine Z.lnil ?_
                        refine Z.only [12] rfl ?_
                        refine Z.nthen ?_
                        refine Z.ret ?_
                        repeat (first | refine Z.rthen ?_ | refine Z.rblock ?_ | refine Z.rscope ?_)
                        -- ret#0
                        refine Z.out1 (by exact ⟨rfl, trivial⟩) ?_
                        first | exact ⟨_, rfl, rfl, hs⟩ | exact ⟨_, rfl, rfl, hs.sub (List.nil_sublist _)⟩
                        )
                  · first
                      | (exfalso; simp at hc33 <;> omega)
                      | (
                        (try simp at hc33)
                        have hx0 : 0 ≤ x := by rcases Int.lt_or_le x 0 with hn | hn; · have := (lev_neg hn).2; omega
                                               · exact hn
                        have hy0 : 0 ≤ y := by rcases Int.lt_or_le y 0 with hn | hn; · have := (lev_neg hn).2; omega
                                               · exact hn
                        have hmono := fun hxy : x ≤ y => lvl_mono hxy
                        have h63 := lvl_top x
                        have hsp := (lvl_spec x).1
                        rw [(lev_pos hx0).1, (lev_pos hy0).1]
                        have e62 : limV 62 = lim 62 ∧ limE 62 = 0 := lim_in (x := 62) (by decide)
                        refine Z.skip ?_
                        refine Z.nthen ?_
                        refine Z.seq ?_
                        refine Z.seq ?_
                        refine Z.region ?_
                        refine Z.lb 4 rfl ?_
                        refine Z.split (s := 178) rfl (fun hsp178 => ?_) (fun hsp178 => ?_)
                        · first
                            | (exfalso; simp at hsp178 <;> omega)
                            | (
                              refine Z.yes (s := 178) (b := true) rfl hsp178 rfl ?_
                              (try simp at hsp178)
                              refine Z.lb 3 rfl ?_
                              refine Z.yes (s := 178) (b := true) rfl rfl rfl ?_
                              refine Z.l rfl rfl (by rfl) (Z.keepS hs) (Z.Yd.pickT rfl rfl) ?_
                              refine Z.lb 1 rfl ?_
                              refine Z.yes (s := 183) (b := false) rfl ((by simp_all <;> omega)) rfl ?_
                              refine Z.lb 2 rfl ?_
                              refine Z.yes (s := 183) (b := false) rfl rfl rfl ?_
                              refine Z.l rfl rfl (by rfl) (Z.keepS hs) (Z.Yd.pickF rfl rfl) ?_
                              refine Z.lb 1 rfl ?_
                              refine Z.yes (s := 187) (b := false) rfl ((by simp_all <;> omega)) rfl ?_
                              refine Z.lb 2 rfl ?_
                              refine Z.yes (s := 187) (b := false) rfl rfl rfl ?_
                              refine Z.l rfl rfl (by rfl) (Z.keepS hs) (Z.Yd.pickF rfl rfl) ?_
                              refine Z.lnil ?_
                              refine Z.only [4, 34, 190] rfl ?_
                              refine Z.nthen ?_
                              refine Z.cond rfl (fun h => absurd h (by simp_all <;> omega)) (fun hc35 => ?_)
                              refine Z.skip ?_
                              refine Z.nthen ?_
                              refine Z.seq ?_
                              refine Z.region ?_
                              refine Z.le rfl trivial ?_
                              refine Z.ZO.call rfl rfl (by rfl) rfl rfl Try.call31 rfl (climit_any 62 _) ?_
                              rintro v37_0 w37_0 ⟨rfl, hy⟩
                              replace hs := hs.call hy
                              clear hy
                              try simp only [List.cons_append, List.nil_append, List.append_nil] at hs
                              rw [e62.1, e62.2]
                              refine Z.lb 5 rfl ?_
                              refine Z.lnil ?_
                              refine Z.only [4, 34, 38, 39] rfl ?_
                              refine Z.nthen ?_
                              refine Z.seq ?_
                              refine Z.seq ?_
                              refine Z.region ?_
                              refine Z.lb 1 rfl ?_
                              refine Z.le rfl trivial ?_
                              refine Z.ZO.call rfl rfl (by rfl) rfl rfl Try.call17 rfl (num24 _ _) ?_
                              rintro v38_1 w38_1 ⟨rfl, hy⟩
                              replace hs := hs.call hy
                              clear hy
                              try simp only [List.cons_append, List.nil_append, List.append_nil] at hs
                              refine Z.lb 2 rfl ?_
                              refine Z.yes (s := 198) (b := false) rfl ((by simp)) rfl ?_
                              refine Z.lb 5 rfl ?_
                              refine Z.l rfl rfl (by rfl) (Z.keepS hs) (Z.Yd.bin rfl rfl (by intro _ w; go_simp; try rfl)) ?_
                              refine Z.yes (s := 198) (b := false) rfl rfl rfl ?_
                              refine Z.l rfl rfl (by rfl) (Z.keepS hs) (Z.Yd.pickF rfl rfl) ?_
                              refine Z.lnil ?_
                              refine Z.only [4, 34, 38, 205] rfl ?_
                              refine Z.nthen ?_
                              refine Z.cond rfl (fun h => absurd h (by have ht := top_b x; first | (rw [ht]; decide) | (simp at ht ⊢; omega) | simp_all)) (fun hc38 => ?_)
                              refine Z.skip ?_
                              refine Z.nthen ?_
                              refine Z.seq ?_
                              refine Z.seq ?_
                              refine Z.region ?_
                              refine Z.lb 3 rfl ?_
                              refine Z.split (s := 208) rfl (fun hsp208 => ?_) (fun hsp208 => ?_)
                              · first
                                  | (exfalso; simp at hsp208 <;> omega)
                                  | (
                                    refine Z.yes (s := 208) (b := true) rfl hsp208 rfl ?_
                                    (try simp at hsp208)
                                    refine Z.ls rfl rfl rfl (by rfl) ?_
                                    refine Z.ls rfl rfl rfl (by rfl) ?_
                                    refine Z.ls rfl rfl rfl (by rfl) ?_
                                    refine Z.l rfl rfl (by rfl) (Z.keepS hs) (Z.Yd.pickT rfl rfl) ?_
                                    refine Z.lnil ?_
                                    refine Z.only [4, 34, 212] rfl ?_
                                    refine Z.nthen ?_
                                    refine Z.cond rfl (fun hc40 => ?_) (fun hc40 => ?_)
                                    · first
                                        | (exfalso; simp at hc40 <;> omega)
                                        | (
                                          (try simp at hc40)
                                          refine Z.seq ?_
                                          refine Z.region ?_
                                          refine Z.le rfl trivial ?_
                                          refine Z.ZO.call rfl rfl (by rfl) rfl rfl Try.call12 rfl (works24 _) ?_
                                          rintro v41_0 w41_0 ⟨rfl, hy⟩
                                          replace hs := hs.call hy
                                          clear hy
                                          try simp only [List.cons_append, List.nil_append, List.append_nil] at hs
                                          refine Z.lb 1 rfl ?_
                                          refine Z.lnil ?_
                                          refine Z.only [12] rfl ?_
                                          refine Z.nthen ?_
                                          refine Z.ret ?_
                                          repeat (first | refine Z.rthen ?_ | refine Z.rblock ?_ | refine Z.rscope ?_)
                                          -- ret#1
                                          refine Z.out1 (by exact ⟨rfl, trivial⟩) ?_
                                          first | exact ⟨_, rfl, rfl, hs⟩ | exact ⟨_, rfl, rfl, hs.sub (List.nil_sublist _)⟩
                                          )
                                    · first
                                        | (exfalso; simp at hc40 <;> omega)
                                        | (
                                          (try simp at hc40)
                                          obtain ⟨hn1, hn2, hn3⟩ := lvl_near (x := x) (by omega) (by omega)
                                          have eli := lim_in hn1
                                          have hbl := lim_bd hn1
                                          have hb62 := lim_bd (k := 62) (by decide)
                                          refine Z.skip ?_
                                          refine Z.nthen ?_
                                          refine Z.seq ?_
                                          refine Z.region ?_
                                          refine Z.lb 1 rfl ?_
                                          refine Z.le rfl trivial ?_
                                          refine Z.ZO.call rfl rfl (by rfl) rfl rfl Try.call31 rfl (climit_any _ _) ?_
                                          rintro v42_1 w42_1 ⟨rfl, hy⟩
                                          replace hs := hs.call hy
                                          clear hy
                                          try simp only [List.cons_append, List.nil_append, List.append_nil] at hs
                                          rw [eli.1, eli.2]
                                          refine Z.lb 5 rfl ?_
                                          refine Z.lnil ?_
                                          refine Z.only [4, 40, 41] rfl ?_
                                          refine Z.nthen ?_
                                          refine Z.seq ?_
                                          refine Z.region ?_
                                          refine Z.lb 1 rfl ?_
                                          refine Z.le rfl trivial ?_
                                          refine Z.ZO.call rfl rfl (by rfl) rfl rfl Try.call17 rfl (num24 _ _) ?_
                                          rintro v43_1 w43_1 ⟨rfl, hy⟩
                                          replace hs := hs.call hy
                                          clear hy
                                          try simp only [List.cons_append, List.nil_append, List.append_nil] at hs
                                          refine Z.lb 2 rfl ?_
                                          refine Z.yes (s := 222) (b := true) rfl ((by simp)) rfl ?_
                                          refine Z.lb 3 rfl ?_
                                          refine Z.yes (s := 222) (b := true) rfl rfl rfl ?_
                                          refine Z.l rfl rfl (by rfl) (Z.keepS hs) (Z.Yd.pickT rfl rfl) ?_
                                          refine Z.lb 1 rfl ?_
                                          refine Z.yes (s := 227) (b := true) rfl ((by simp; omega)) rfl ?_
                                          refine Z.lb 1 rfl ?_
                                          refine Z.l rfl rfl (by rfl) (Z.keepS hs) (Z.Yd.mul rfl rfl (fun hG => Z.wi64 (by first | omega | (have hG' := Z.gh rfl hG; simp at hG'; omega)))) ?_
                                          refine Z.lb 1 rfl ?_
                                          refine Z.l rfl rfl (by rfl) (Z.keepS hs) (Z.Yd.mul rfl rfl (fun hG => Z.wi64 (by first | omega | (have hG' := Z.gh rfl hG; simp at hG'; omega)))) ?_
                                          refine Z.l rfl rfl (by rfl) (Z.keepS hs) (Z.Yd.add rfl rfl (fun hG => Z.wi64 (by first | omega | (have hG' := Z.gh rfl hG; simp at hG'; omega)))) ?_
                                          refine Z.lb 1 rfl ?_
                                          refine Z.yes (s := 227) (b := true) rfl rfl rfl ?_
                                          refine Z.l rfl rfl (by rfl) (Z.keepS hs) (Z.Yd.pickT rfl rfl) ?_
                                          refine Z.lb 1 rfl ?_
                                          refine Z.yes (s := 235) (b := true) rfl ((by simp; omega)) rfl ?_
                                          refine Z.le rfl (by exact ⟨rfl, trivial⟩) ?_
                                          refine Z.ZO.call rfl rfl (by rfl) rfl rfl Try.call12 rfl (works24 _) ?_
                                          rintro v43_17 w43_17 ⟨rfl, hy⟩
                                          replace hs := hs.call hy
                                          clear hy
                                          try simp only [List.cons_append, List.nil_append, List.append_nil] at hs
                                          refine Z.l rfl rfl (by rfl) (Z.keepS hs) (Z.Yd.pickT rfl rfl) ?_
                                          refine Z.lb 1 rfl ?_
                                          refine Z.lnil ?_
                                          refine Z.only [12] rfl ?_
                                          refine Z.nthen ?_
                                          refine Z.ret ?_
                                          -- ret#2
                                          refine Z.out1 (by exact ⟨rfl, trivial⟩) ?_
                                          first | exact ⟨_, rfl, rfl, hs⟩ | exact ⟨_, rfl, rfl, hs.sub (List.nil_sublist _)⟩
                                          )
                                    )
                              · first
                                  | (exfalso; simp at hsp208 <;> omega)
                                  | (
                                    refine Z.yes (s := 208) (b := false) rfl hsp208 rfl ?_
                                    (try simp at hsp208)
                                    refine Z.lb 3 rfl ?_
                                    refine Z.yes (s := 208) (b := false) rfl rfl rfl ?_
                                    refine Z.l rfl rfl (by rfl) (Z.keepS hs) (Z.Yd.pickF rfl rfl) ?_
                                    refine Z.lnil ?_
                                    refine Z.only [4, 34, 212] rfl ?_
                                    refine Z.nthen ?_
                                    refine Z.cond rfl (fun hc40 => ?_) (fun hc40 => ?_)
                                    · first
                                        | (exfalso; simp at hc40 <;> omega)
                                        | (
                                          (try simp at hc40)
                                          refine Z.seq ?_
                                          refine Z.region ?_
                                          refine Z.le rfl trivial ?_
                                          refine Z.ZO.call rfl rfl (by rfl) rfl rfl Try.call12 rfl (works24 _) ?_
                                          rintro v41_0 w41_0 ⟨rfl, hy⟩
                                          replace hs := hs.call hy
                                          clear hy
                                          try simp only [List.cons_append, List.nil_append, List.append_nil] at hs
                                          refine Z.lb 1 rfl ?_
                                          refine Z.lnil ?_
                                          refine Z.only [12] rfl ?_
                                          refine Z.nthen ?_
                                          refine Z.ret ?_
                                          repeat (first | refine Z.rthen ?_ | refine Z.rblock ?_ | refine Z.rscope ?_)
                                          -- ret#3
                                          refine Z.out1 (by exact ⟨rfl, trivial⟩) ?_
                                          first | exact ⟨_, rfl, rfl, hs⟩ | exact ⟨_, rfl, rfl, hs.sub (List.nil_sublist _)⟩
                                          )
                                    · first
                                        | (exfalso; simp at hc40 <;> omega)
                                        | (
                                          (try simp at hc40)
                                          obtain ⟨hn1, hn2, hn3⟩ := lvl_near (x := x) (by omega) (by omega)
                                          have eli := lim_in hn1
                                          have hbl := lim_bd hn1
                                          have hb62 := lim_bd (k := 62) (by decide)
                                          refine Z.skip ?_
                                          refine Z.nthen ?_
                                          refine Z.seq ?_
                                          refine Z.region ?_
                                          refine Z.lb 1 rfl ?_
                                          refine Z.le rfl trivial ?_
                                          refine Z.ZO.call rfl rfl (by rfl) rfl rfl Try.call31 rfl (climit_any _ _) ?_
                                          rintro v42_1 w42_1 ⟨rfl, hy⟩
                                          replace hs := hs.call hy
                                          clear hy
                                          try simp only [List.cons_append, List.nil_append, List.append_nil] at hs
                                          rw [eli.1, eli.2]
                                          refine Z.lb 5 rfl ?_
                                          refine Z.lnil ?_
                                          refine Z.only [4, 40, 41] rfl ?_
                                          refine Z.nthen ?_
                                          refine Z.seq ?_
                                          refine Z.region ?_
                                          refine Z.lb 1 rfl ?_
                                          refine Z.le rfl trivial ?_
                                          refine Z.ZO.call rfl rfl (by rfl) rfl rfl Try.call17 rfl (num24 _ _) ?_
                                          rintro v43_1 w43_1 ⟨rfl, hy⟩
                                          replace hs := hs.call hy
                                          clear hy
                                          try simp only [List.cons_append, List.nil_append, List.append_nil] at hs
                                          refine Z.lb 2 rfl ?_
                                          refine Z.yes (s := 222) (b := true) rfl ((by simp)) rfl ?_
                                          refine Z.lb 3 rfl ?_
                                          refine Z.yes (s := 222) (b := true) rfl rfl rfl ?_
                                          refine Z.l rfl rfl (by rfl) (Z.keepS hs) (Z.Yd.pickT rfl rfl) ?_
                                          refine Z.lb 1 rfl ?_
                                          refine Z.yes (s := 227) (b := true) rfl ((by simp; omega)) rfl ?_
                                          refine Z.lb 1 rfl ?_
                                          refine Z.l rfl rfl (by rfl) (Z.keepS hs) (Z.Yd.mul rfl rfl (fun hG => Z.wi64 (by first | omega | (have hG' := Z.gh rfl hG; simp at hG'; omega)))) ?_
                                          refine Z.lb 1 rfl ?_
                                          refine Z.l rfl rfl (by rfl) (Z.keepS hs) (Z.Yd.mul rfl rfl (fun hG => Z.wi64 (by first | omega | (have hG' := Z.gh rfl hG; simp at hG'; omega)))) ?_
                                          refine Z.l rfl rfl (by rfl) (Z.keepS hs) (Z.Yd.add rfl rfl (fun hG => Z.wi64 (by first | omega | (have hG' := Z.gh rfl hG; simp at hG'; omega)))) ?_
                                          refine Z.lb 1 rfl ?_
                                          refine Z.yes (s := 227) (b := true) rfl rfl rfl ?_
                                          refine Z.l rfl rfl (by rfl) (Z.keepS hs) (Z.Yd.pickT rfl rfl) ?_
                                          refine Z.lb 1 rfl ?_
                                          refine Z.yes (s := 235) (b := true) rfl ((by simp; omega)) rfl ?_
                                          refine Z.le rfl (by exact ⟨rfl, trivial⟩) ?_
                                          refine Z.ZO.call rfl rfl (by rfl) rfl rfl Try.call12 rfl (works24 _) ?_
                                          rintro v43_17 w43_17 ⟨rfl, hy⟩
                                          replace hs := hs.call hy
                                          clear hy
                                          try simp only [List.cons_append, List.nil_append, List.append_nil] at hs
                                          refine Z.l rfl rfl (by rfl) (Z.keepS hs) (Z.Yd.pickT rfl rfl) ?_
                                          refine Z.lb 1 rfl ?_
                                          refine Z.lnil ?_
                                          refine Z.only [12] rfl ?_
                                          refine Z.nthen ?_
                                          refine Z.ret ?_
                                          -- ret#4
                                          refine Z.out1 (by exact ⟨rfl, trivial⟩) ?_
                                          first | exact ⟨_, rfl, rfl, hs⟩ | exact ⟨_, rfl, rfl, hs.sub (List.nil_sublist _)⟩
                                          )
                                    )
                              )
                        · first
                            | (exfalso; simp at hsp178 <;> omega)
                            | (
                              refine Z.yes (s := 178) (b := false) rfl hsp178 rfl ?_
                              (try simp at hsp178)
                              refine Z.ls rfl rfl rfl (by rfl) ?_
                              refine Z.ls rfl rfl rfl (by rfl) ?_
                              refine Z.ls rfl rfl rfl (by rfl) ?_
                              refine Z.l rfl rfl (by rfl) (Z.keepS hs) (Z.Yd.pickF rfl rfl) ?_
                              refine Z.lb 1 rfl ?_
                              refine Z.yes (s := 183) (b := false) rfl ((by simp_all <;> omega)) rfl ?_
                              refine Z.lb 2 rfl ?_
                              refine Z.yes (s := 183) (b := false) rfl rfl rfl ?_
                              refine Z.l rfl rfl (by rfl) (Z.keepS hs) (Z.Yd.pickF rfl rfl) ?_
                              refine Z.lb 1 rfl ?_
                              refine Z.yes (s := 187) (b := false) rfl ((by simp_all <;> omega)) rfl ?_
                              refine Z.lb 2 rfl ?_
                              refine Z.yes (s := 187) (b := false) rfl rfl rfl ?_
                              refine Z.l rfl rfl (by rfl) (Z.keepS hs) (Z.Yd.pickF rfl rfl) ?_
                              refine Z.lnil ?_
                              refine Z.only [4, 34, 190] rfl ?_
                              refine Z.nthen ?_
                              refine Z.cond rfl (fun h => absurd h (by simp_all <;> omega)) (fun hc35 => ?_)
                              refine Z.skip ?_
                              refine Z.nthen ?_
                              refine Z.seq ?_
                              refine Z.region ?_
                              refine Z.le rfl trivial ?_
                              refine Z.ZO.call rfl rfl (by rfl) rfl rfl Try.call31 rfl (climit_any 62 _) ?_
                              rintro v37_0 w37_0 ⟨rfl, hy⟩
                              replace hs := hs.call hy
                              clear hy
                              try simp only [List.cons_append, List.nil_append, List.append_nil] at hs
                              rw [e62.1, e62.2]
                              refine Z.lb 5 rfl ?_
                              refine Z.lnil ?_
                              refine Z.only [4, 34, 38, 39] rfl ?_
                              refine Z.nthen ?_
                              refine Z.seq ?_
                              refine Z.seq ?_
                              refine Z.region ?_
                              refine Z.lb 1 rfl ?_
                              refine Z.le rfl trivial ?_
                              refine Z.ZO.call rfl rfl (by rfl) rfl rfl Try.call17 rfl (num24 _ _) ?_
                              rintro v38_1 w38_1 ⟨rfl, hy⟩
                              replace hs := hs.call hy
                              clear hy
                              try simp only [List.cons_append, List.nil_append, List.append_nil] at hs
                              refine Z.lb 2 rfl ?_
                              refine Z.yes (s := 198) (b := false) rfl ((by simp)) rfl ?_
                              refine Z.lb 5 rfl ?_
                              refine Z.l rfl rfl (by rfl) (Z.keepS hs) (Z.Yd.bin rfl rfl (by intro _ w; go_simp; try rfl)) ?_
                              refine Z.yes (s := 198) (b := false) rfl rfl rfl ?_
                              refine Z.l rfl rfl (by rfl) (Z.keepS hs) (Z.Yd.pickF rfl rfl) ?_
                              refine Z.lnil ?_
                              refine Z.only [4, 34, 38, 205] rfl ?_
                              refine Z.nthen ?_
                              refine Z.cond rfl (fun h => absurd h (by have ht := top_b x; first | (rw [ht]; decide) | (simp at ht ⊢; omega) | simp_all)) (fun hc38 => ?_)
                              refine Z.skip ?_
                              refine Z.nthen ?_
                              refine Z.seq ?_
                              refine Z.seq ?_
                              refine Z.region ?_
                              refine Z.lb 3 rfl ?_
                              refine Z.split (s := 208) rfl (fun hsp208 => ?_) (fun hsp208 => ?_)
                              · first
                                  | (exfalso; simp at hsp208 <;> omega)
                                  | (
                                    refine Z.yes (s := 208) (b := true) rfl hsp208 rfl ?_
                                    (try simp at hsp208)
                                    refine Z.ls rfl rfl rfl (by rfl) ?_
                                    refine Z.ls rfl rfl rfl (by rfl) ?_
                                    refine Z.ls rfl rfl rfl (by rfl) ?_
                                    refine Z.l rfl rfl (by rfl) (Z.keepS hs) (Z.Yd.pickT rfl rfl) ?_
                                    refine Z.lnil ?_
                                    refine Z.only [4, 34, 212] rfl ?_
                                    refine Z.nthen ?_
                                    refine Z.cond rfl (fun hc40 => ?_) (fun hc40 => ?_)
                                    · first
                                        | (exfalso; simp at hc40 <;> omega)
                                        | (
                                          (try simp at hc40)
                                          refine Z.seq ?_
                                          refine Z.region ?_
                                          refine Z.le rfl trivial ?_
                                          refine Z.ZO.call rfl rfl (by rfl) rfl rfl Try.call12 rfl (works24 _) ?_
                                          rintro v41_0 w41_0 ⟨rfl, hy⟩
                                          replace hs := hs.call hy
                                          clear hy
                                          try simp only [List.cons_append, List.nil_append, List.append_nil] at hs
                                          refine Z.lb 1 rfl ?_
                                          refine Z.lnil ?_
                                          refine Z.only [12] rfl ?_
                                          refine Z.nthen ?_
                                          refine Z.ret ?_
                                          repeat (first | refine Z.rthen ?_ | refine Z.rblock ?_ | refine Z.rscope ?_)
                                          -- ret#5
                                          refine Z.out1 (by exact ⟨rfl, trivial⟩) ?_
                                          first | exact ⟨_, rfl, rfl, hs⟩ | exact ⟨_, rfl, rfl, hs.sub (List.nil_sublist _)⟩
                                          )
                                    · first
                                        | (exfalso; simp at hc40 <;> omega)
                                        | (
                                          (try simp at hc40)
                                          obtain ⟨hn1, hn2, hn3⟩ := lvl_near (x := x) (by omega) (by omega)
                                          have eli := lim_in hn1
                                          have hbl := lim_bd hn1
                                          have hb62 := lim_bd (k := 62) (by decide)
                                          refine Z.skip ?_
                                          refine Z.nthen ?_
                                          refine Z.seq ?_
                                          refine Z.region ?_
                                          refine Z.lb 1 rfl ?_
                                          refine Z.le rfl trivial ?_
                                          refine Z.ZO.call rfl rfl (by rfl) rfl rfl Try.call31 rfl (climit_any _ _) ?_
                                          rintro v42_1 w42_1 ⟨rfl, hy⟩
                                          replace hs := hs.call hy
                                          clear hy
                                          try simp only [List.cons_append, List.nil_append, List.append_nil] at hs
                                          rw [eli.1, eli.2]
                                          refine Z.lb 5 rfl ?_
                                          refine Z.lnil ?_
                                          refine Z.only [4, 40, 41] rfl ?_
                                          refine Z.nthen ?_
                                          refine Z.seq ?_
                                          refine Z.region ?_
                                          refine Z.lb 1 rfl ?_
                                          refine Z.le rfl trivial ?_
                                          refine Z.ZO.call rfl rfl (by rfl) rfl rfl Try.call17 rfl (num24 _ _) ?_
                                          rintro v43_1 w43_1 ⟨rfl, hy⟩
                                          replace hs := hs.call hy
                                          clear hy
                                          try simp only [List.cons_append, List.nil_append, List.append_nil] at hs
                                          refine Z.lb 2 rfl ?_
                                          refine Z.yes (s := 222) (b := true) rfl ((by simp)) rfl ?_
                                          refine Z.lb 3 rfl ?_
                                          refine Z.yes (s := 222) (b := true) rfl rfl rfl ?_
                                          refine Z.l rfl rfl (by rfl) (Z.keepS hs) (Z.Yd.pickT rfl rfl) ?_
                                          refine Z.lb 1 rfl ?_
                                          refine Z.yes (s := 227) (b := true) rfl ((by simp; omega)) rfl ?_
                                          refine Z.lb 1 rfl ?_
                                          refine Z.l rfl rfl (by rfl) (Z.keepS hs) (Z.Yd.mul rfl rfl (fun hG => Z.wi64 (by first | omega | (have hG' := Z.gh rfl hG; simp at hG'; omega)))) ?_
                                          refine Z.lb 1 rfl ?_
                                          refine Z.l rfl rfl (by rfl) (Z.keepS hs) (Z.Yd.mul rfl rfl (fun hG => Z.wi64 (by first | omega | (have hG' := Z.gh rfl hG; simp at hG'; omega)))) ?_
                                          refine Z.l rfl rfl (by rfl) (Z.keepS hs) (Z.Yd.add rfl rfl (fun hG => Z.wi64 (by first | omega | (have hG' := Z.gh rfl hG; simp at hG'; omega)))) ?_
                                          refine Z.lb 1 rfl ?_
                                          refine Z.yes (s := 227) (b := true) rfl rfl rfl ?_
                                          refine Z.l rfl rfl (by rfl) (Z.keepS hs) (Z.Yd.pickT rfl rfl) ?_
                                          refine Z.lb 1 rfl ?_
                                          refine Z.yes (s := 235) (b := true) rfl ((by simp; omega)) rfl ?_
                                          refine Z.le rfl (by exact ⟨rfl, trivial⟩) ?_
                                          refine Z.ZO.call rfl rfl (by rfl) rfl rfl Try.call12 rfl (works24 _) ?_
                                          rintro v43_17 w43_17 ⟨rfl, hy⟩
                                          replace hs := hs.call hy
                                          clear hy
                                          try simp only [List.cons_append, List.nil_append, List.append_nil] at hs
                                          refine Z.l rfl rfl (by rfl) (Z.keepS hs) (Z.Yd.pickT rfl rfl) ?_
                                          refine Z.lb 1 rfl ?_
                                          refine Z.lnil ?_
                                          refine Z.only [12] rfl ?_
                                          refine Z.nthen ?_
                                          refine Z.ret ?_
                                          -- ret#6
                                          refine Z.out1 (by exact ⟨rfl, trivial⟩) ?_
                                          first | exact ⟨_, rfl, rfl, hs⟩ | exact ⟨_, rfl, rfl, hs.sub (List.nil_sublist _)⟩
                                          )
                                    )
                              · first
                                  | (exfalso; simp at hsp208 <;> omega)
                                  | (
                                    refine Z.yes (s := 208) (b := false) rfl hsp208 rfl ?_
                                    (try simp at hsp208)
                                    refine Z.lb 3 rfl ?_
                                    refine Z.yes (s := 208) (b := false) rfl rfl rfl ?_
                                    refine Z.l rfl rfl (by rfl) (Z.keepS hs) (Z.Yd.pickF rfl rfl) ?_
                                    refine Z.lnil ?_
                                    refine Z.only [4, 34, 212] rfl ?_
                                    refine Z.nthen ?_
                                    refine Z.cond rfl (fun hc40 => ?_) (fun hc40 => ?_)
                                    · first
                                        | (exfalso; simp at hc40 <;> omega)
                                        | (
                                          (try simp at hc40)
                                          refine Z.seq ?_
                                          refine Z.region ?_
                                          refine Z.le rfl trivial ?_
                                          refine Z.ZO.call rfl rfl (by rfl) rfl rfl Try.call12 rfl (works24 _) ?_
                                          rintro v41_0 w41_0 ⟨rfl, hy⟩
                                          replace hs := hs.call hy
                                          clear hy
                                          try simp only [List.cons_append, List.nil_append, List.append_nil] at hs
                                          refine Z.lb 1 rfl ?_
                                          refine Z.lnil ?_
                                          refine Z.only [12] rfl ?_
                                          refine Z.nthen ?_
                                          refine Z.ret ?_
                                          repeat (first | refine Z.rthen ?_ | refine Z.rblock ?_ | refine Z.rscope ?_)
                                          -- ret#7
                                          refine Z.out1 (by exact ⟨rfl, trivial⟩) ?_
                                          first | exact ⟨_, rfl, rfl, hs⟩ | exact ⟨_, rfl, rfl, hs.sub (List.nil_sublist _)⟩
                                          )
                                    · first
                                        | (exfalso; simp at hc40 <;> omega)
                                        | (
                                          (try simp at hc40)
                                          obtain ⟨hn1, hn2, hn3⟩ := lvl_near (x := x) (by omega) (by omega)
                                          have eli := lim_in hn1
                                          have hbl := lim_bd hn1
                                          have hb62 := lim_bd (k := 62) (by decide)
                                          refine Z.skip ?_
                                          refine Z.nthen ?_
                                          refine Z.seq ?_
                                          refine Z.region ?_
                                          refine Z.lb 1 rfl ?_
                                          refine Z.le rfl trivial ?_
                                          refine Z.ZO.call rfl rfl (by rfl) rfl rfl Try.call31 rfl (climit_any _ _) ?_
                                          rintro v42_1 w42_1 ⟨rfl, hy⟩
                                          replace hs := hs.call hy
                                          clear hy
                                          try simp only [List.cons_append, List.nil_append, List.append_nil] at hs
                                          rw [eli.1, eli.2]
                                          refine Z.lb 5 rfl ?_
                                          refine Z.lnil ?_
                                          refine Z.only [4, 40, 41] rfl ?_
                                          refine Z.nthen ?_
                                          refine Z.seq ?_
                                          refine Z.region ?_
                                          refine Z.lb 1 rfl ?_
                                          refine Z.le rfl trivial ?_
                                          refine Z.ZO.call rfl rfl (by rfl) rfl rfl Try.call17 rfl (num24 _ _) ?_
                                          rintro v43_1 w43_1 ⟨rfl, hy⟩
                                          replace hs := hs.call hy
                                          clear hy
                                          try simp only [List.cons_append, List.nil_append, List.append_nil] at hs
                                          refine Z.lb 2 rfl ?_
                                          refine Z.yes (s := 222) (b := true) rfl ((by simp)) rfl ?_
                                          refine Z.lb 3 rfl ?_
                                          refine Z.yes (s := 222) (b := true) rfl rfl rfl ?_
                                          refine Z.l rfl rfl (by rfl) (Z.keepS hs) (Z.Yd.pickT rfl rfl) ?_
                                          refine Z.lb 1 rfl ?_
                                          refine Z.yes (s := 227) (b := true) rfl ((by simp; omega)) rfl ?_
                                          refine Z.lb 1 rfl ?_
                                          refine Z.l rfl rfl (by rfl) (Z.keepS hs) (Z.Yd.mul rfl rfl (fun hG => Z.wi64 (by first | omega | (have hG' := Z.gh rfl hG; simp at hG'; omega)))) ?_
                                          refine Z.lb 1 rfl ?_
                                          refine Z.l rfl rfl (by rfl) (Z.keepS hs) (Z.Yd.mul rfl rfl (fun hG => Z.wi64 (by first | omega | (have hG' := Z.gh rfl hG; simp at hG'; omega)))) ?_
                                          refine Z.l rfl rfl (by rfl) (Z.keepS hs) (Z.Yd.add rfl rfl (fun hG => Z.wi64 (by first | omega | (have hG' := Z.gh rfl hG; simp at hG'; omega)))) ?_
                                          refine Z.lb 1 rfl ?_
                                          refine Z.yes (s := 227) (b := true) rfl rfl rfl ?_
                                          refine Z.l rfl rfl (by rfl) (Z.keepS hs) (Z.Yd.pickT rfl rfl) ?_
                                          refine Z.lb 1 rfl ?_
                                          refine Z.yes (s := 235) (b := true) rfl ((by simp; omega)) rfl ?_
                                          refine Z.le rfl (by exact ⟨rfl, trivial⟩) ?_
                                          refine Z.ZO.call rfl rfl (by rfl) rfl rfl Try.call12 rfl (works24 _) ?_
                                          rintro v43_17 w43_17 ⟨rfl, hy⟩
                                          replace hs := hs.call hy
                                          clear hy
                                          try simp only [List.cons_append, List.nil_append, List.append_nil] at hs
                                          refine Z.l rfl rfl (by rfl) (Z.keepS hs) (Z.Yd.pickT rfl rfl) ?_
                                          refine Z.lb 1 rfl ?_
                                          refine Z.lnil ?_
                                          refine Z.only [12] rfl ?_
                                          refine Z.nthen ?_
                                          refine Z.ret ?_
                                          -- ret#8
                                          refine Z.out1 (by exact ⟨rfl, trivial⟩) ?_
                                          first | exact ⟨_, rfl, rfl, hs⟩ | exact ⟨_, rfl, rfl, hs.sub (List.nil_sublist _)⟩
                                          )
                                    )
                              )
                        )
              )
  · skip
    refine Z.enter Try.func8 rfl Try.ntmps8 rfl rfl ?_
    refine Z.seq ?_
    refine Z.region ?_
    refine Z.le rfl trivial ?_
    refine Z.ZO.box rfl rfl (by rfl) rfl rfl hs ?_
    clear hs; intro g6 w6 hs
    refine Z.le rfl trivial ?_
    refine Z.ZO.box rfl rfl (by rfl) rfl rfl hs ?_
    clear hs; intro g9 w9 hs
    refine Z.lb 1 rfl ?_
    refine Z.lnil ?_
    refine Z.only [1, 2, 4, 5, 6, 9] rfl ?_
    refine Z.nthen ?_
    refine Z.seq ?_
    refine Z.seq ?_
    refine Z.region ?_
    refine Z.l rfl rfl (by rfl) (Z.keepS hs) (Z.Yd.fieldA (m := 1) rfl (by kernel_rfl)) ?_
    refine Z.l rfl rfl (by rfl) (Z.keepS hs) (by first | exact Z.Yd.load rfl Try.isAgg29 (fun _ => Z.cellB (by first | ((repeat (first | exact List.mem_cons_self | refine List.mem_cons_of_mem _ ?_ | refine List.mem_append_right _ ?_)); done) | fail) rfl) | exact Z.Yd.load rfl Try.isAgg29 (fun _ => Z.cellO (by assumption) (by simp) (by assumption)) | fail "load 1.1") ?_
    refine Z.l rfl rfl (by rfl) (Z.keepS hs) (Z.Yd.lenS rfl Try.underlying29) ?_
    refine Z.lb 1 rfl ?_
    refine Z.lnil ?_
    refine Z.only [1, 2, 4, 5, 6, 9, 45] rfl ?_
    refine Z.nthen ?_
    refine Z.cond rfl (fun hc1 => ?_) (fun h => absurd h (by simp; omega))
    refine Z.seq ?_
    refine Z.region ?_
    refine Z.le rfl trivial ?_
    refine Z.ZO.call rfl rfl (by rfl) rfl rfl Try.call12 rfl (works24 _) ?_
    rintro v2_0 w2_0 ⟨rfl, hy⟩
    replace hs := hs.call hy
    clear hy
    try simp only [List.cons_append, List.nil_append, List.append_nil] at hs
    refine Z.lb 1 rfl ?_
    refine Z.lnil ?_
    refine Z.only [12] rfl ?_
    refine Z.nthen ?_
    refine Z.ret ?_
    repeat (first | refine Z.rthen ?_ | refine Z.rblock ?_ | refine Z.rscope ?_)
    -- ret#0
    refine Z.out1 (by exact ⟨rfl, trivial⟩) ?_
    first | exact ⟨_, rfl, rfl, hs⟩ | exact ⟨_, rfl, rfl, hs.sub (List.nil_sublist _)⟩
theorem controlHolds_rd (cs0 : Array Value) (a1 : Int) (a2 : Int) (cs3 : Array Value) (a4 : Int) (a5 : Int) (w : World) (z0 : Rd Try.prog w 28 (Value.agg cs0).cells.toList) (z1 : Rd Try.prog w 3 (Value.int .i64 a1).cells.toList) (z2 : Rd Try.prog w 40 (Value.int .u64 a2).cells.toList) (z3 : Rd Try.prog w 31 (Value.agg cs3).cells.toList) (z4 : Rd Try.prog w 3 (Value.int .i64 a4).cells.toList) (z5 : Rd Try.prog w 3 (Value.int .i64 a5).cells.toList) :
    Calls Try.prog 8 #[.agg cs0, .int .i64 a1, .int .u64 a2, .agg cs3, .int .i64 a4, .int .i64 a5] w fun e w' => e = .returned (.bool true) ∧ Below w.heap.size w w' := by
  obtain ⟨r, hr⟩ := rd_report z0
  have e0 : cs0 = r.cells.toArray := by rw [← hr]; simp [Value.cells]
  obtain ⟨lc, A, m, c, l, hr3, h1, h2, h3, h4⟩ := rd_part z3
  have e3 : cs3 = #[.int .i64 lc, .slice A m c] := by
    have : cs3.toList = [.int .i64 lc, .slice A m c] := by simpa [Value.cells] using hr3
    exact Array.toList_inj.1 this
  obtain ⟨u, hu, wu⟩ := Rd.int Try.underlying40 z2
  simp [Value.cells] at hu
  subst hu
  have hbu := wf_u64 wu
  obtain ⟨id, rfl⟩ := Int.eq_ofNat_of_zero_le hbu.1
  obtain ⟨x, hx, wx⟩ := Rd.int Try.underlying3 z4
  simp [Value.cells] at hx
  subst hx
  have hbx := wf_i64 wx
  rw [e0, e3]
  refine (controlHolds_walk r a1 id lc A m c l a4 a5 w (by omega) h4 h1 h2 h3 (by omega)).mono ?_
  rintro e w' ⟨v, rfl, rfl, h⟩
  exact ⟨rfl, h.below⟩
end Go.Proofs.Yteabcdmgklhijaa

/- What every row needs. -/
namespace Go.Proofs.Yteabcdmgklhijaa
open Go.ChangeShapes Go.WideShapes Go.ChangeAt Go.RowKit
theorem pown : ownKnob Try.prog.godebug = none := by kernel_rfl
theorem plaidOut : laidOutB Try.prog = true := by kernel_rfl
end Go.Proofs.Yteabcdmgklhijaa
