/- Part 5 of the proofs that lead to the statement. -/
import Derived.Test.YtjgfooakcljddaaY4
/- Random access of a handset: Resolve, what can be seen, Copy, New. -/
namespace Go.Proofs.Ytjgfooakcljddaa
open Go.RowKit
set_option linter.unusedSimpArgs false
set_option linter.unusedVariables false
--newlaws

theorem ac_resolve (g T : Nat) (m : AcV) (t lc : Int) (A : Option Addr) (n c : Nat) (l : List Int) (w : World) (hs : SX.St w (SX.idsOf [SX.Ent.blk g T m.cells.toArray]) w [SX.Ent.blk g T m.cells.toArray]) (hm : m.ok)
    (hx : Sx w (SX.idsOf [SX.Ent.blk g T m.cells.toArray]) A (ints .u8 l)) (hl : l.length = n) (hn : n ≤ 9223372036854775807) (hb : Byts l) :
    Calls Try.prog 16 #[.pointer (some ⟨g, 0, none⟩), .int .i64 t, .agg #[.int .i64 lc, .slice A n c]] w (SX.Ret fun v w' => v = .tuple #[.bool (resolveV m t lc l).2.1, .int .i64 (resolveV m t lc l).2.2] ∧ SX.St w (SX.idsOf [SX.Ent.blk g T m.cells.toArray]) w' [SX.Ent.blk g T (resolveV m t lc l).1.cells.toArray]) := by
  generalize hM : SX.idsOf [SX.Ent.blk g T m.cells.toArray] = M at *
  obtain ⟨X, hX⟩ : ∃ X : Value × Int × AcV, X = if true = true ∧ okT t then (if idE lc l = 0 then (if (tickV m t).st ∈ [3] then (.bool (resolveS (tickV m t) lc l).1, (resolveS (tickV m t) lc l).2.1, (resolveS (tickV m t) lc l).2.2) else (.bool false, 8, tickV m t)) else (.bool false, idE lc l, m)) else (.bool false, 2, m) := ⟨_, rfl⟩
  have hE : X.1 = .bool (resolveV m t lc l).2.1 ∧ X.2.1 = (resolveV m t lc l).2.2 ∧ X.2.2 = (resolveV m t lc l).1 := by
    rw [hX]
    unfold resolveV resolveS
    by_cases h1 : okT t
    · rw [if_pos h1, if_pos ⟨rfl, h1⟩]
      by_cases h2 : idE lc l = 0
      · rw [if_pos h2, if_pos h2]
        by_cases h3 : (tickV m t).st = 3
        · rw [if_pos h3, if_pos (show (tickV m t).st ∈ [3] by rw [h3]; decide)]
          split <;> exact ⟨rfl, rfl, rfl⟩
        · rw [if_neg h3, if_neg (show ¬ (tickV m t).st ∈ [3] by simpa using h3)]
          exact ⟨rfl, rfl, rfl⟩
      · rw [if_neg h2, if_neg h2]
        exact ⟨rfl, rfl, rfl⟩
    · rw [if_neg h1, if_neg (fun h => h1 h.2)]
      exact ⟨rfl, rfl, rfl⟩
  refine Z.enter Try.func16 rfl Try.ntmps16 rfl rfl ?_
  refine Z.seq ?_
  refine Z.region ?_
  refine Z.le rfl trivial ?_
  refine Z.ZO.box rfl rfl (by rfl) rfl rfl hs ?_
  clear hs; intro g3 w3 hs
  refine Z.le rfl trivial ?_
  refine Z.ZO.box rfl rfl (by rfl) rfl rfl hs ?_
  clear hs; intro g5 w5 hs
  refine Z.lb 2 rfl ?_
  refine Z.lnil ?_
  refine Z.only [1, 3, 5] rfl ?_
  refine Z.nthen ?_
  refine Z.seq ?_
  refine Z.region ?_
  refine Z.l rfl rfl (by rfl) (Z.keepS hs) (by first | exact Z.Yd.loadA _ rfl Try.isAgg40 (fun _ => Z.cellsB (by first | ((repeat (first | exact List.mem_cons_self | refine List.mem_cons_of_mem _ ?_ | refine List.mem_append_right _ ?_)); done) | fail)) (by exact Try.sizeOf40) | fail "load 1.0") ?_
  refine Z.le rfl trivial ?_
  refine Z.ZO.call rfl rfl (by rfl) rfl rfl Try.call38 rfl (decid_any lc A n c l _ ((hx.st hs).sx) hl hn hb) ?_
  rintro v1_1 w1_1 ⟨rfl, hy⟩
  replace hs := hs.call hy
  clear hy
  try simp only [List.cons_append, List.nil_append, List.append_nil] at hs
  refine Z.lb 5 rfl ?_
  refine Z.lnil ?_
  refine Z.only [1, 3, 5, 9] rfl ?_
  refine Z.nthen ?_
  refine Z.seq ?_
  refine Z.region ?_
  refine Z.l rfl rfl (by rfl) (Z.keepS hs) (by first | exact Z.Yd.load rfl Try.isAgg25 (fun _ => Z.cellB (by first | ((repeat (first | exact List.mem_cons_self | refine List.mem_cons_of_mem _ ?_ | refine List.mem_append_right _ ?_)); done) | fail) rfl) | exact Z.Yd.load rfl Try.isAgg25 (fun _ => Z.cellO (by assumption) (by simp) (by assumption)) | fail "load 2.0") ?_
  refine Z.lb 3 rfl ?_
  refine Z.le rfl trivial ?_
  refine Z.ZO.litL (T' := 44) [(0, 1)] [.int .i64 0] rfl rfl (by rfl) rfl rfl (by intro W; kernel_rfl) hs ?_
  clear hs; intro g19 w19 hs
  replace hs : SX.St w M _ ([SX.Ent.blk g T m.cells.toArray, SX.Ent.blk g3 _ _, SX.Ent.blk g5 _ _] ++ [_]) := hs.sel [3, 2, 1, 0] (by decide)
  refine Z.le rfl trivial ?_
  refine Z.ZO.call rfl rfl (by rfl) rfl rfl Try.call29 rfl (ac_timedB g T [SX.Ent.blk g3 _ _, SX.Ent.blk g5 _ _] m t true (idE lc l) 39 _ _ _ _ [3] _ hs.lend hm (by have h0 := Z.blk_lentj hs (j := 0) rfl; exact h0) rfl (by decide) Try.call39 _ _ _ (fun _ ht _ _ W hW ↦ ac_resolve1 g T g3 _ g5 _ (tickV m t) lc A n c l W hW.all (hm.tick ht) ((hx.lent hs).all hW) hl hn) X.1 X.2.1 X.2.2 hX) ?_
  rintro v2_5 w2_5 ⟨rfl, hz⟩
  replace hs := hs.regain hz
  rw [hE.2.2] at hs
  rw [hE.1, hE.2.1]
  refine Z.lb 4 rfl ?_
  refine Z.lnil ?_
  refine Z.only [6, 7] rfl ?_
  refine Z.nthen ?_
  refine Z.ret ?_
  -- ret#0
  refine Z.out2 (by exact ⟨rfl, rfl, trivial⟩) ?_
  exact ⟨_, rfl, rfl, hs.sel [0] (by decide)⟩
theorem ac_State (g : Nat) (m : AcV) (w : World) (hc : Cel w g m.cells) (hf : m.cfg) : Calls Try.prog 17 #[.pointer (some ⟨g, 0, none⟩)] w (SX.Ret fun v w' => v = .int .i64 m.st ∧ SX.St w [] w' []) := by
  have hs := SX.St.start w
  have hmax : m.max ≠ 0 := by have := hf.2.2.2.2; omega
  refine Z.enter Try.func17 rfl Try.ntmps17 rfl rfl ?_
  refine Z.seq ?_
  refine Z.region ?_
  refine Z.lb 1 rfl ?_
  refine Z.lnil ?_
  refine Z.only [0] rfl ?_
  refine Z.nthen ?_
  refine Z.seq ?_
  refine Z.seq ?_
  refine Z.region ?_
  refine Z.lb 1 rfl ?_
  refine Z.le rfl trivial ?_
  refine Z.ZO.call rfl rfl (by rfl) rfl rfl Try.call36 rfl (ac_none g m _ hc hmax) ?_
  rintro v1_1 w1_1 ⟨rfl, hy⟩
  replace hs := hs.call hy
  clear hy
  try simp only [List.cons_append, List.nil_append, List.append_nil] at hs
  refine Z.lnil ?_
  refine Z.only [0, 4] rfl ?_
  refine Z.nthen ?_
  refine Z.cond rfl (fun h => absurd h (by simp)) (fun hc1 => ?_)
  refine Z.skip ?_
  refine Z.nthen ?_
  refine Z.seq ?_
  refine Z.region ?_
  refine Z.lb 1 rfl ?_
  refine Z.l rfl rfl (by rfl) (Z.keepS hs) (Z.Yd.nilc rfl rfl) ?_
  refine Z.l rfl rfl (by rfl) (Z.keepS hs) (Z.Yd.fieldA (m := 5) rfl (by kernel_rfl)) ?_
  refine Z.l rfl rfl (by rfl) (Z.keepS hs) (Z.Yd.load rfl Try.isAgg44 (fun _ => Z.cellO hc.1 (by simp) (hc.2 5 _ rfl))) ?_
  refine Z.lb 1 rfl ?_
  refine Z.lnil ?_
  refine Z.only [2] rfl ?_
  refine Z.nthen ?_
  refine Z.ret ?_
  -- ret#0
  refine Z.out1 (by exact ⟨rfl, trivial⟩) ?_
  first | exact ⟨_, rfl, rfl, hs⟩ | exact ⟨_, rfl, rfl, hs.sub (List.nil_sublist _)⟩
theorem ac_Due (g : Nat) (m : AcV) (w : World) (hc : Cel w g m.cells) (hf : m.cfg) : Calls Try.prog 18 #[.pointer (some ⟨g, 0, none⟩)] w (SX.Ret fun v w' => v = .int .i64 m.due ∧ SX.St w [] w' []) := by
  have hs := SX.St.start w
  have hmax : m.max ≠ 0 := by have := hf.2.2.2.2; omega
  refine Z.enter Try.func18 rfl Try.ntmps18 rfl rfl ?_
  refine Z.seq ?_
  refine Z.region ?_
  refine Z.lb 1 rfl ?_
  refine Z.lnil ?_
  refine Z.only [0] rfl ?_
  refine Z.nthen ?_
  refine Z.seq ?_
  refine Z.seq ?_
  refine Z.region ?_
  refine Z.lb 1 rfl ?_
  refine Z.le rfl trivial ?_
  refine Z.ZO.call rfl rfl (by rfl) rfl rfl Try.call36 rfl (ac_none g m _ hc hmax) ?_
  rintro v1_1 w1_1 ⟨rfl, hy⟩
  replace hs := hs.call hy
  clear hy
  try simp only [List.cons_append, List.nil_append, List.append_nil] at hs
  refine Z.lnil ?_
  refine Z.only [0, 4] rfl ?_
  refine Z.nthen ?_
  refine Z.cond rfl (fun h => absurd h (by simp)) (fun hc1 => ?_)
  refine Z.skip ?_
  refine Z.nthen ?_
  refine Z.seq ?_
  refine Z.region ?_
  refine Z.lb 1 rfl ?_
  refine Z.l rfl rfl (by rfl) (Z.keepS hs) (Z.Yd.nilc rfl rfl) ?_
  refine Z.l rfl rfl (by rfl) (Z.keepS hs) (Z.Yd.fieldA (m := 7) rfl (by kernel_rfl)) ?_
  refine Z.l rfl rfl (by rfl) (Z.keepS hs) (Z.Yd.load rfl Try.isAgg3 (fun _ => Z.cellO hc.1 (by simp) (hc.2 7 _ rfl))) ?_
  refine Z.lb 1 rfl ?_
  refine Z.lnil ?_
  refine Z.only [2] rfl ?_
  refine Z.nthen ?_
  refine Z.ret ?_
  -- ret#0
  refine Z.out1 (by exact ⟨rfl, trivial⟩) ?_
  first | exact ⟨_, rfl, rfl, hs⟩ | exact ⟨_, rfl, rfl, hs.sub (List.nil_sublist _)⟩
theorem ac_Attempts (g : Nat) (m : AcV) (w : World) (hc : Cel w g m.cells) (hf : m.cfg) : Calls Try.prog 23 #[.pointer (some ⟨g, 0, none⟩)] w (SX.Ret fun v w' => v = .int .i64 m.att ∧ SX.St w [] w' []) := by
  have hs := SX.St.start w
  have hmax : m.max ≠ 0 := by have := hf.2.2.2.2; omega
  refine Z.enter Try.func23 rfl Try.ntmps23 rfl rfl ?_
  refine Z.seq ?_
  refine Z.region ?_
  refine Z.lb 1 rfl ?_
  refine Z.lnil ?_
  refine Z.only [0] rfl ?_
  refine Z.nthen ?_
  refine Z.seq ?_
  refine Z.seq ?_
  refine Z.region ?_
  refine Z.lb 1 rfl ?_
  refine Z.le rfl trivial ?_
  refine Z.ZO.call rfl rfl (by rfl) rfl rfl Try.call36 rfl (ac_none g m _ hc hmax) ?_
  rintro v1_1 w1_1 ⟨rfl, hy⟩
  replace hs := hs.call hy
  clear hy
  try simp only [List.cons_append, List.nil_append, List.append_nil] at hs
  refine Z.lnil ?_
  refine Z.only [0, 4] rfl ?_
  refine Z.nthen ?_
  refine Z.cond rfl (fun h => absurd h (by simp)) (fun hc1 => ?_)
  refine Z.skip ?_
  refine Z.nthen ?_
  refine Z.seq ?_
  refine Z.region ?_
  refine Z.lb 1 rfl ?_
  refine Z.l rfl rfl (by rfl) (Z.keepS hs) (Z.Yd.nilc rfl rfl) ?_
  refine Z.l rfl rfl (by rfl) (Z.keepS hs) (Z.Yd.fieldA (m := 10) rfl (by kernel_rfl)) ?_
  refine Z.l rfl rfl (by rfl) (Z.keepS hs) (Z.Yd.load rfl Try.isAgg3 (fun _ => Z.cellO hc.1 (by simp) (hc.2 10 _ rfl))) ?_
  refine Z.lb 1 rfl ?_
  refine Z.lnil ?_
  refine Z.only [2] rfl ?_
  refine Z.nthen ?_
  refine Z.ret ?_
  -- ret#0
  refine Z.out1 (by exact ⟨rfl, trivial⟩) ?_
  first | exact ⟨_, rfl, rfl, hs⟩ | exact ⟨_, rfl, rfl, hs.sub (List.nil_sublist _)⟩
theorem ac_RNTI (g : Nat) (m : AcV) (w : World) (hc : Cel w g m.cells) (hf : m.cfg) : Calls Try.prog 14 #[.pointer (some ⟨g, 0, none⟩)] w (SX.Ret fun v w' => v = .int .i64 (useV m) ∧ SX.St w [] w' []) := by
  have hs := SX.St.start w
  have hmax : m.max ≠ 0 := by have := hf.2.2.2.2; omega
  have hr := hf.2.1
  refine Z.enter Try.func14 rfl Try.ntmps14 rfl rfl ?_
  refine Z.seq ?_
  refine Z.region ?_
  refine Z.lb 1 rfl ?_
  refine Z.lnil ?_
  refine Z.only [0] rfl ?_
  refine Z.nthen ?_
  refine Z.seq ?_
  refine Z.block ?_
  refine Z.seq ?_
  refine Z.region ?_
  refine Z.lb 1 rfl ?_
  refine Z.le rfl trivial ?_
  refine Z.ZO.call rfl rfl (by rfl) rfl rfl Try.call36 rfl (ac_none g m _ hc hmax) ?_
  rintro v1_1 w1_1 ⟨rfl, hy⟩
  replace hs := hs.call hy
  clear hy
  try simp only [List.cons_append, List.nil_append, List.append_nil] at hs
  refine Z.lb 1 rfl ?_
  refine Z.yes (s := 6) (b := false) rfl (rfl) rfl ?_
  refine Z.lb 1 rfl ?_
  refine Z.l rfl rfl (by rfl) (Z.keepS hs) (Z.Yd.nilc rfl rfl) ?_
  refine Z.l rfl rfl (by rfl) (Z.keepS hs) (Z.Yd.fieldA (m := 5) rfl (by kernel_rfl)) ?_
  refine Z.l rfl rfl (by rfl) (Z.keepS hs) (Z.Yd.load rfl Try.isAgg44 (fun _ => Z.cellO hc.1 (by simp) (hc.2 5 _ rfl))) ?_
  refine Z.lb 1 rfl ?_
  refine Z.yes (s := 6) (b := false) rfl rfl rfl ?_
  refine Z.l rfl rfl (by rfl) (Z.keepS hs) (Z.Yd.pickF rfl rfl) ?_
  refine Z.lb 1 rfl ?_
  refine Z.lnil ?_
  refine Z.only [0, 3] rfl ?_
  refine Z.nthen ?_
  refine Z.cond rfl (fun hc1 => ?_) (fun hc1 => ?_)
  · first
      | (exfalso; simp at hc1 <;> omega)
      | (
        (try simp at hc1)
        have e : useV m = 0 := if_neg (by assumption)
        rw [e]
        refine Z.seq ?_
        refine Z.region ?_
        refine Z.lb 1 rfl ?_
        refine Z.lnil ?_
        refine Z.only [2] rfl ?_
        refine Z.nthen ?_
        refine Z.ret ?_
        repeat (first | refine Z.rthen ?_ | refine Z.rblock ?_ | refine Z.rscope ?_)
        -- ret#0
        refine Z.out1 (by exact ⟨rfl, trivial⟩) ?_
        first | exact ⟨_, rfl, rfl, hs⟩ | exact ⟨_, rfl, rfl, hs.sub (List.nil_sublist _)⟩
        )
  · first
      | (exfalso; simp at hc1 <;> omega)
      | (
        (try simp at hc1)
        refine Z.seq ?_
        refine Z.region ?_
        refine Z.lb 1 rfl ?_
        refine Z.l rfl rfl (by rfl) (Z.keepS hs) (Z.Yd.nilc rfl rfl) ?_
        refine Z.l rfl rfl (by rfl) (Z.keepS hs) (Z.Yd.fieldA (m := 0) rfl (by kernel_rfl)) ?_
        refine Z.l rfl rfl (by rfl) (Z.keepS hs) (Z.Yd.fieldA (m := 1) rfl (by kernel_rfl)) ?_
        refine Z.l rfl rfl (by rfl) (Z.keepS hs) (Z.Yd.load rfl Try.isAgg3 (fun _ => Z.cellO hc.1 (by simp) (hc.2 1 _ rfl))) ?_
        refine Z.lb 2 rfl ?_
        refine Z.lnil ?_
        refine Z.only [0, 13] rfl ?_
        refine Z.nthen ?_
        refine Z.cond rfl (fun hc3 => ?_) (fun hc3 => ?_)
        · first
            | (exfalso; simp at hc3 <;> omega)
            | (
              (try simp at hc3)
              have e : useV m = m.rnt := by unfold useV; rw [if_pos (by assumption), if_pos (by omega)]
              rw [e]
              refine Z.seq ?_
              refine Z.region ?_
              refine Z.lb 1 rfl ?_
              refine Z.l rfl rfl (by rfl) (Z.keepS hs) (Z.Yd.nilc rfl rfl) ?_
              refine Z.l rfl rfl (by rfl) (Z.keepS hs) (Z.Yd.fieldA (m := 0) rfl (by kernel_rfl)) ?_
              refine Z.l rfl rfl (by rfl) (Z.keepS hs) (Z.Yd.fieldA (m := 1) rfl (by kernel_rfl)) ?_
              refine Z.l rfl rfl (by rfl) (Z.keepS hs) (Z.Yd.load rfl Try.isAgg3 (fun _ => Z.cellO hc.1 (by simp) (hc.2 1 _ rfl))) ?_
              refine Z.lb 1 rfl ?_
              refine Z.lnil ?_
              refine Z.only [2] rfl ?_
              refine Z.nthen ?_
              refine Z.ret ?_
              repeat (first | refine Z.rthen ?_ | refine Z.rblock ?_ | refine Z.rscope ?_)
              -- ret#1
              refine Z.out1 (by exact ⟨rfl, trivial⟩) ?_
              first | exact ⟨_, rfl, rfl, hs⟩ | exact ⟨_, rfl, rfl, hs.sub (List.nil_sublist _)⟩
              )
        · first
            | (exfalso; simp at hc3 <;> omega)
            | (
              (try simp at hc3)
              have e : useV m = m.rn := by unfold useV; rw [if_pos (by assumption), if_neg (by omega)]
              rw [e]
              refine Z.skip ?_
              refine Z.nblock ?_
              refine Z.nthen ?_
              refine Z.seq ?_
              refine Z.region ?_
              refine Z.lb 1 rfl ?_
              refine Z.l rfl rfl (by rfl) (Z.keepS hs) (Z.Yd.nilc rfl rfl) ?_
              refine Z.l rfl rfl (by rfl) (Z.keepS hs) (Z.Yd.fieldA (m := 12) rfl (by kernel_rfl)) ?_
              refine Z.l rfl rfl (by rfl) (Z.keepS hs) (Z.Yd.load rfl Try.isAgg3 (fun _ => Z.cellO hc.1 (by simp) (hc.2 12 _ rfl))) ?_
              refine Z.lb 1 rfl ?_
              refine Z.lnil ?_
              refine Z.only [2] rfl ?_
              refine Z.nthen ?_
              refine Z.ret ?_
              -- ret#2
              refine Z.out1 (by exact ⟨rfl, trivial⟩) ?_
              first | exact ⟨_, rfl, rfl, hs⟩ | exact ⟨_, rfl, rfl, hs.sub (List.nil_sublist _)⟩
              )
        )
theorem ac_Copy (g : Nat) (m : AcV) (w : World) (hc : Cel w g m.cells) (hf : m.cfg) : Calls Try.prog 25 #[.pointer (some ⟨g, 0, none⟩)] w (SX.Ret fun v w' => ∃ g2, v = .pointer (some ⟨g2, 0, none⟩) ∧ SX.St w [] w' [SX.Ent.blk g2 64 m.cells.toArray]) := by
  have hs := SX.St.start w
  have hmax : m.max ≠ 0 := by have := hf.2.2.2.2; omega
  refine Z.enter Try.func25 rfl Try.ntmps25 rfl rfl ?_
  refine Z.seq ?_
  refine Z.region ?_
  have hone := ac_one m
  refine Z.l rfl rfl (by rfl) (Z.keepS hs) (Z.Yd.pure rfl) ?_
  refine Z.lnil ?_
  refine Z.only [0] rfl ?_
  refine Z.nthen ?_
  refine Z.seq ?_
  refine Z.seq ?_
  refine Z.region ?_
  refine Z.lb 1 rfl ?_
  refine Z.le rfl trivial ?_
  refine Z.ZO.call rfl rfl (by rfl) rfl rfl Try.call36 rfl (ac_none g m _ hc hmax) ?_
  rintro v1_1 w1_1 ⟨rfl, hy⟩
  replace hs := hs.call hy
  clear hy
  try simp only [List.cons_append, List.nil_append, List.append_nil] at hs
  refine Z.lnil ?_
  refine Z.only [0, 5] rfl ?_
  refine Z.nthen ?_
  refine Z.cond rfl (fun h => absurd h (by simp)) (fun hc1 => ?_)
  refine Z.skip ?_
  refine Z.nthen ?_
  refine Z.seq ?_
  refine Z.region ?_
  refine Z.lb 1 rfl ?_
  refine Z.l rfl rfl (by rfl) (Z.keepS hs) (Z.Yd.nilc rfl rfl) ?_
  refine Z.l rfl rfl (by rfl) (Z.keepS hs) (Z.Yd.loadA _ rfl Try.isAgg64 (fun _ => hc.agg (by simp)) (by exact Try.sizeOf64)) ?_
  refine Z.le rfl trivial ?_
  refine Z.ZO.alloc rfl rfl (by rfl) Try.zeroValue64 rfl hs ?_
  clear hs; intro g3 w3 hs
  refine Z.le rfl trivial ?_
  first | refine Z.ZO.storeA rfl rfl hs rfl rfl (by kernel_rfl) (by first | (simp [Value.oneCell']; done) | (refine Z.all_one ?_; assumption)) (by first | exact SX.at0 | exact SX.at1 | exact SX.at2 | exact SX.at3 | exact SX.at4 | exact SX.at5 | exact Z.at6 | exact Z.at7 | exact Z.at8 | exact Z.at9 | exact Z.at10 | exact Z.at11 | exact Z.at12) (by rfl) ?_ | refine Z.ZO.storeP rfl rfl hs rfl rfl (by kernel_rfl) (by first | (simp [Value.oneCell']; done) | (refine Z.all_one ?_; assumption)) (by first | exact SX.at0 | exact SX.at1 | exact SX.at2 | exact SX.at3 | exact SX.at4 | exact SX.at5 | exact Z.at6 | exact Z.at7 | exact Z.at8 | exact Z.at9 | exact Z.at10 | exact Z.at11 | exact Z.at12) (by first | decide | (simp; done) | (simp; omega)) ?_ | refine Z.ZO.storePR rfl rfl hs rfl rfl (by kernel_rfl) (by first | (simp [Value.oneCell']; done) | (refine Z.all_one ?_; assumption)) (by first | exact SX.at0 | exact SX.at1 | exact SX.at2 | exact SX.at3 | exact SX.at4 | exact SX.at5 | exact Z.at6 | exact Z.at7 | exact Z.at8 | exact Z.at9 | exact Z.at10 | exact Z.at11 | exact Z.at12) (by first | decide | (simp; done) | (simp; omega)) ?_
  clear hs; intro ws hs
  simp only [Nat.zero_add, Nat.add_zero, Nat.reduceAdd, Int.reduceToNat, Nat.reduceMul, List.set_cons_zero, List.set_cons_succ, List.setIfInBounds_toArray] at hs
  try simp only [Z.putL, Nat.zero_add] at hs
  refine Z.lnil ?_
  refine Z.only [3] rfl ?_
  refine Z.nthen ?_
  refine Z.seq ?_
  refine Z.region ?_
  refine Z.lb 1 rfl ?_
  refine Z.lnil ?_
  refine Z.only [2] rfl ?_
  refine Z.nthen ?_
  refine Z.ret ?_
  -- ret#0
  refine Z.out1 (by exact ⟨rfl, trivial⟩) ?_
  exact ⟨_, rfl, _, rfl, hs⟩
def newV (i r n c x : Int) : AcV := ⟨i, r, n, c, x, 0, 0, -1, 0, 0, 0, 0, 0⟩
theorem newV_ok {i r n c x : Int} (h : (newV i r n c x).cfg) : (newV i r n c x).ok := by
  have h1 := h.2.2.2.2
  refine ⟨h, by simp [newV], by simp [newV], by simp [newV], by simp [newV], by simp [newV], ?_, by simp [newV], by simp [newV], by simp [newV]⟩
  simp only [newV] at h1 ⊢
  omega
instance (m : AcV) : Decidable m.cfg := by unfold AcV.cfg; infer_instance
def cfgA (i r n c x : Int) : Array Value := #[.int .u64 i, .int .i64 r, .int .i64 n, .int .i64 c, .int .i64 x]
theorem ac_new (i r n c x : Int) (w : World) (hi : 0 ≤ i) : Calls Try.prog 9 #[.agg #[.int .u64 i, .int .i64 r, .int .i64 n, .int .i64 c, .int .i64 x]] w (SX.Ret fun v w' => if (newV i r n c x).cfg then ∃ g, v = .tuple #[.pointer (some ⟨g, 0, none⟩), .int .i64 0] ∧ SX.St w [] w' [SX.Ent.blk g 64 (newV i r n c x).cells.toArray] else v = .tuple #[.pointer none, .int .i64 2] ∧ SX.St w [] w' []) := by
  have hs := SX.St.start w
  have hcf : (newV i r n c x).cfg ↔ (i < 281474976710656 ∧ (0 ≤ r ∧ r ≤ 65535) ∧ (1 ≤ n ∧ n ≤ 10) ∧ (1 ≤ c ∧ c ≤ 64) ∧ (1 ≤ x ∧ x ≤ 200)) := by
    unfold AcV.cfg newV
    simp only
    omega
  by_cases h : (newV i r n c x).cfg
  · simp only [if_pos h]
    have hc := hcf.1 h
    refine Z.enter Try.func9 rfl Try.ntmps9 rfl rfl ?_
    refine Z.seq ?_
    refine Z.region ?_
    refine Z.le rfl trivial ?_
    refine Z.ZO.box rfl rfl (by rfl) rfl rfl hs ?_
    clear hs; intro g1 w1 hs
    refine Z.lb 2 rfl ?_
    refine Z.lnil ?_
    refine Z.only [1] rfl ?_
    refine Z.nthen ?_
    refine Z.seq ?_
    refine Z.seq ?_
    refine Z.region ?_
    refine Z.l rfl rfl (by rfl) (Z.keepS hs) (Z.Yd.fieldA (m := 0) rfl (by kernel_rfl)) ?_
    refine Z.l rfl rfl (by rfl) (Z.keepS hs) (by first | exact Z.Yd.load rfl Try.isAgg22 (fun _ => Z.cellB (by first | ((repeat (first | exact List.mem_cons_self | refine List.mem_cons_of_mem _ ?_ | refine List.mem_append_right _ ?_)); done) | fail) rfl) | exact Z.Yd.load rfl Try.isAgg22 (fun _ => Z.cellO (by assumption) (by simp) (by assumption)) | fail "load 1.1") ?_
    refine Z.lb 2 rfl ?_
    refine Z.yes (s := 7) (b := false) rfl ((by simp; omega)) rfl ?_
    refine Z.l rfl rfl (by rfl) (Z.keepS hs) (Z.Yd.fieldA (m := 1) rfl (by kernel_rfl)) ?_
    refine Z.l rfl rfl (by rfl) (Z.keepS hs) (by first | exact Z.Yd.load rfl Try.isAgg3 (fun _ => Z.cellB (by first | ((repeat (first | exact List.mem_cons_self | refine List.mem_cons_of_mem _ ?_ | refine List.mem_append_right _ ?_)); done) | fail) rfl) | exact Z.Yd.load rfl Try.isAgg3 (fun _ => Z.cellO (by assumption) (by simp) (by assumption)) | fail "load 1.5") ?_
    refine Z.yes (s := 7) (b := false) rfl rfl rfl ?_
    refine Z.le rfl (by exact ⟨rfl, trivial⟩) ?_
    refine Z.ZO.call rfl rfl (by rfl) rfl rfl Try.call27 rfl (ac_inside r 0 65535 _) ?_
    rintro v1_6 w1_6 ⟨rfl, hy⟩
    replace hs := hs.call hy
    clear hy
    try simp only [List.cons_append, List.nil_append, List.append_nil] at hs
    refine Z.lb 1 rfl ?_
    refine Z.yes (s := 7) (b := false) rfl rfl rfl ?_
    refine Z.l rfl rfl (by rfl) (Z.keepS hs) (Z.Yd.pickF rfl rfl) ?_
    refine Z.lb 1 rfl ?_
    refine Z.yes (s := 13) (b := false) rfl ((by simp; omega)) rfl ?_
    refine Z.l rfl rfl (by rfl) (Z.keepS hs) (Z.Yd.fieldA (m := 2) rfl (by kernel_rfl)) ?_
    refine Z.l rfl rfl (by rfl) (Z.keepS hs) (by first | exact Z.Yd.load rfl Try.isAgg3 (fun _ => Z.cellB (by first | ((repeat (first | exact List.mem_cons_self | refine List.mem_cons_of_mem _ ?_ | refine List.mem_append_right _ ?_)); done) | fail) rfl) | exact Z.Yd.load rfl Try.isAgg3 (fun _ => Z.cellO (by assumption) (by simp) (by assumption)) | fail "load 1.11") ?_
    refine Z.yes (s := 13) (b := false) rfl rfl rfl ?_
    refine Z.le rfl (by exact ⟨rfl, trivial⟩) ?_
    refine Z.ZO.call rfl rfl (by rfl) rfl rfl Try.call27 rfl (ac_inside n 1 10 _) ?_
    rintro v1_12 w1_12 ⟨rfl, hy⟩
    replace hs := hs.call hy
    clear hy
    try simp only [List.cons_append, List.nil_append, List.append_nil] at hs
    refine Z.lb 1 rfl ?_
    refine Z.yes (s := 13) (b := false) rfl rfl rfl ?_
    refine Z.l rfl rfl (by rfl) (Z.keepS hs) (Z.Yd.pickF rfl rfl) ?_
    refine Z.lb 1 rfl ?_
    refine Z.yes (s := 19) (b := false) rfl ((by simp; omega)) rfl ?_
    refine Z.l rfl rfl (by rfl) (Z.keepS hs) (Z.Yd.fieldA (m := 3) rfl (by kernel_rfl)) ?_
    refine Z.l rfl rfl (by rfl) (Z.keepS hs) (by first | exact Z.Yd.load rfl Try.isAgg3 (fun _ => Z.cellB (by first | ((repeat (first | exact List.mem_cons_self | refine List.mem_cons_of_mem _ ?_ | refine List.mem_append_right _ ?_)); done) | fail) rfl) | exact Z.Yd.load rfl Try.isAgg3 (fun _ => Z.cellO (by assumption) (by simp) (by assumption)) | fail "load 1.17") ?_
    refine Z.yes (s := 19) (b := false) rfl rfl rfl ?_
    refine Z.le rfl (by exact ⟨rfl, trivial⟩) ?_
    refine Z.ZO.call rfl rfl (by rfl) rfl rfl Try.call27 rfl (ac_inside c 1 64 _) ?_
    rintro v1_18 w1_18 ⟨rfl, hy⟩
    replace hs := hs.call hy
    clear hy
    try simp only [List.cons_append, List.nil_append, List.append_nil] at hs
    refine Z.lb 1 rfl ?_
    refine Z.yes (s := 19) (b := false) rfl rfl rfl ?_
    refine Z.l rfl rfl (by rfl) (Z.keepS hs) (Z.Yd.pickF rfl rfl) ?_
    refine Z.lb 1 rfl ?_
    refine Z.yes (s := 25) (b := false) rfl ((by simp; omega)) rfl ?_
    refine Z.l rfl rfl (by rfl) (Z.keepS hs) (Z.Yd.fieldA (m := 4) rfl (by kernel_rfl)) ?_
    refine Z.l rfl rfl (by rfl) (Z.keepS hs) (by first | exact Z.Yd.load rfl Try.isAgg3 (fun _ => Z.cellB (by first | ((repeat (first | exact List.mem_cons_self | refine List.mem_cons_of_mem _ ?_ | refine List.mem_append_right _ ?_)); done) | fail) rfl) | exact Z.Yd.load rfl Try.isAgg3 (fun _ => Z.cellO (by assumption) (by simp) (by assumption)) | fail "load 1.23") ?_
    refine Z.yes (s := 25) (b := false) rfl rfl rfl ?_
    refine Z.le rfl (by exact ⟨rfl, trivial⟩) ?_
    refine Z.ZO.call rfl rfl (by rfl) rfl rfl Try.call27 rfl (ac_inside x 1 200 _) ?_
    rintro v1_24 w1_24 ⟨rfl, hy⟩
    replace hs := hs.call hy
    clear hy
    try simp only [List.cons_append, List.nil_append, List.append_nil] at hs
    refine Z.lb 1 rfl ?_
    refine Z.yes (s := 25) (b := false) rfl rfl rfl ?_
    refine Z.l rfl rfl (by rfl) (Z.keepS hs) (Z.Yd.pickF rfl rfl) ?_
    refine Z.lnil ?_
    refine Z.only [1, 30] rfl ?_
    refine Z.nthen ?_
    refine Z.cond rfl (fun h => absurd h (by simp; omega)) (fun hc1 => ?_)
    refine Z.skip ?_
    refine Z.nthen ?_
    refine Z.seq ?_
    refine Z.region ?_
    refine Z.l rfl rfl (by rfl) (Z.keepS hs) (by first | exact Z.Yd.loadA _ rfl Try.isAgg24 (fun _ => Z.cellsB (by first | ((repeat (first | exact List.mem_cons_self | refine List.mem_cons_of_mem _ ?_ | refine List.mem_append_right _ ?_)); done) | fail)) (by exact Try.sizeOf24) | fail "load 3.0") ?_
    refine Z.l rfl rfl (by rfl) (Z.keepS hs) (Z.Yd.buildL [(0, 5), (5, 1), (6, 1), (7, 1), (8, 1), (9, 1), (10, 1), (11, 1), (12, 1)] [.int .u64 0, .int .i64 0, .int .i64 0, .int .i64 0, .int .i64 0, .int .i64 0, .int .i64 0, .int .i64 0, .int .i64 0, .int .i64 0, .int .i64 0, .int .i64 0, .int .i64 0] rfl rfl (by intro w; kernel_rfl)) ?_
    refine Z.le rfl trivial ?_
    refine Z.ZO.box rfl rfl (by rfl) rfl rfl hs ?_
    clear hs; intro g33 w33 hs
    refine Z.lb 2 rfl ?_
    refine Z.lnil ?_
    refine Z.only [2, 3] rfl ?_
    refine Z.nthen ?_
    refine Z.ret ?_
    -- ret#0
    refine Z.out2 (by exact ⟨rfl, rfl, trivial⟩) ?_
    exact ⟨_, rfl, _, rfl, hs.sel [0] (by decide)⟩
  · simp only [if_neg h]
    have hc : ¬ (i < 281474976710656 ∧ (0 ≤ r ∧ r ≤ 65535) ∧ (1 ≤ n ∧ n ≤ 10) ∧ (1 ≤ c ∧ c ≤ 64) ∧ (1 ≤ x ∧ x ≤ 200)) := fun h2 => h (hcf.2 h2)
    refine Z.enter Try.func9 rfl Try.ntmps9 rfl rfl ?_
    refine Z.seq ?_
    refine Z.region ?_
    refine Z.le rfl trivial ?_
    refine Z.ZO.box rfl rfl (by rfl) rfl rfl hs ?_
    clear hs; intro g1 w1 hs
    refine Z.lb 2 rfl ?_
    refine Z.lnil ?_
    refine Z.only [1] rfl ?_
    refine Z.nthen ?_
    refine Z.seq ?_
    refine Z.seq ?_
    refine Z.region ?_
    refine Z.l rfl rfl (by rfl) (Z.keepS hs) (Z.Yd.fieldA (m := 0) rfl (by kernel_rfl)) ?_
    refine Z.l rfl rfl (by rfl) (Z.keepS hs) (by first | exact Z.Yd.load rfl Try.isAgg22 (fun _ => Z.cellB (by first | ((repeat (first | exact List.mem_cons_self | refine List.mem_cons_of_mem _ ?_ | refine List.mem_append_right _ ?_)); done) | fail) rfl) | exact Z.Yd.load rfl Try.isAgg22 (fun _ => Z.cellO (by assumption) (by simp) (by assumption)) | fail "load 1.1") ?_
    refine Z.lb 2 rfl ?_
    refine Z.split (s := 7) rfl (fun hsp7 => ?_) (fun hsp7 => ?_)
    · first
        | (exfalso; simp at hsp7 <;> omega)
        | (
          refine Z.yes (s := 7) (b := true) rfl hsp7 rfl ?_
          (try simp at hsp7)
          refine Z.ls rfl rfl rfl (by rfl) ?_
          refine Z.ls rfl rfl rfl (by rfl) ?_
          refine Z.ls rfl rfl rfl (by rfl) ?_
          refine Z.ls rfl rfl rfl (by rfl) ?_
          refine Z.l rfl rfl (by rfl) (Z.keepS hs) (Z.Yd.pickT rfl rfl) ?_
          refine Z.lb 1 rfl ?_
          refine Z.split (s := 13) rfl (fun hsp13 => ?_) (fun hsp13 => ?_)
          · first
              | (exfalso; simp at hsp13 <;> omega)
              | (
                refine Z.yes (s := 13) (b := true) rfl hsp13 rfl ?_
                (try simp at hsp13)
                refine Z.ls rfl rfl rfl (by rfl) ?_
                refine Z.ls rfl rfl rfl (by rfl) ?_
                refine Z.ls rfl rfl rfl (by rfl) ?_
                refine Z.ls rfl rfl rfl (by rfl) ?_
                refine Z.l rfl rfl (by rfl) (Z.keepS hs) (Z.Yd.pickT rfl rfl) ?_
                refine Z.lb 1 rfl ?_
                refine Z.split (s := 19) rfl (fun hsp19 => ?_) (fun hsp19 => ?_)
                · first
                    | (exfalso; simp at hsp19 <;> omega)
                    | (
                      refine Z.yes (s := 19) (b := true) rfl hsp19 rfl ?_
                      (try simp at hsp19)
                      refine Z.ls rfl rfl rfl (by rfl) ?_
                      refine Z.ls rfl rfl rfl (by rfl) ?_
                      refine Z.ls rfl rfl rfl (by rfl) ?_
                      refine Z.ls rfl rfl rfl (by rfl) ?_
                      refine Z.l rfl rfl (by rfl) (Z.keepS hs) (Z.Yd.pickT rfl rfl) ?_
                      refine Z.lb 1 rfl ?_
                      refine Z.split (s := 25) rfl (fun hsp25 => ?_) (fun hsp25 => ?_)
                      · first
                          | (exfalso; simp at hsp25 <;> omega)
                          | (
                            refine Z.yes (s := 25) (b := true) rfl hsp25 rfl ?_
                            (try simp at hsp25)
                            refine Z.ls rfl rfl rfl (by rfl) ?_
                            refine Z.ls rfl rfl rfl (by rfl) ?_
                            refine Z.ls rfl rfl rfl (by rfl) ?_
                            refine Z.ls rfl rfl rfl (by rfl) ?_
                            refine Z.l rfl rfl (by rfl) (Z.keepS hs) (Z.Yd.pickT rfl rfl) ?_
                            refine Z.lnil ?_
                            refine Z.only [1, 30] rfl ?_
                            refine Z.nthen ?_
                            refine Z.cond rfl (fun hc1 => ?_) (fun h => absurd h (by first | (simp; done) | (simp; omega)))
                            refine Z.seq ?_
                            refine Z.region ?_
                            refine Z.lb 2 rfl ?_
                            refine Z.lnil ?_
                            refine Z.only [2, 3] rfl ?_
                            refine Z.nthen ?_
                            refine Z.ret ?_
                            repeat (first | refine Z.rthen ?_ | refine Z.rblock ?_ | refine Z.rscope ?_)
                            -- ret#0
                            refine Z.out2 (by exact ⟨rfl, rfl, trivial⟩) ?_
                            exact ⟨_, rfl, rfl, hs.sub (List.nil_sublist _)⟩
                            )
                      · first
                          | (exfalso; simp at hsp25 <;> omega)
                          | (
                            refine Z.yes (s := 25) (b := false) rfl hsp25 rfl ?_
                            (try simp at hsp25)
                            refine Z.l rfl rfl (by rfl) (Z.keepS hs) (Z.Yd.fieldA (m := 4) rfl (by kernel_rfl)) ?_
                            refine Z.l rfl rfl (by rfl) (Z.keepS hs) (by first | exact Z.Yd.load rfl Try.isAgg3 (fun _ => Z.cellB (by first | ((repeat (first | exact List.mem_cons_self | refine List.mem_cons_of_mem _ ?_ | refine List.mem_append_right _ ?_)); done) | fail) rfl) | exact Z.Yd.load rfl Try.isAgg3 (fun _ => Z.cellO (by assumption) (by simp) (by assumption)) | fail "load 1.23") ?_
                            refine Z.yes (s := 25) (b := false) rfl rfl rfl ?_
                            refine Z.le rfl (by exact ⟨rfl, trivial⟩) ?_
                            refine Z.ZO.call rfl rfl (by rfl) rfl rfl Try.call27 rfl (ac_inside x 1 200 _) ?_
                            rintro v1_24 w1_24 ⟨rfl, hy⟩
                            replace hs := hs.call hy
                            clear hy
                            try simp only [List.cons_append, List.nil_append, List.append_nil] at hs
                            refine Z.lb 1 rfl ?_
                            refine Z.yes (s := 25) (b := false) rfl rfl rfl ?_
                            refine Z.l rfl rfl (by rfl) (Z.keepS hs) (Z.Yd.pickF rfl rfl) ?_
                            refine Z.lnil ?_
                            refine Z.only [1, 30] rfl ?_
                            refine Z.nthen ?_
                            refine Z.cond rfl (fun hc1 => ?_) (fun h => absurd h (by first | (simp; done) | (simp; omega)))
                            refine Z.seq ?_
                            refine Z.region ?_
                            refine Z.lb 2 rfl ?_
                            refine Z.lnil ?_
                            refine Z.only [2, 3] rfl ?_
                            refine Z.nthen ?_
                            refine Z.ret ?_
                            repeat (first | refine Z.rthen ?_ | refine Z.rblock ?_ | refine Z.rscope ?_)
                            -- ret#1
                            refine Z.out2 (by exact ⟨rfl, rfl, trivial⟩) ?_
                            exact ⟨_, rfl, rfl, hs.sub (List.nil_sublist _)⟩
                            )
                      )
                · first
                    | (exfalso; simp at hsp19 <;> omega)
                    | (
                      refine Z.yes (s := 19) (b := false) rfl hsp19 rfl ?_
                      (try simp at hsp19)
                      refine Z.l rfl rfl (by rfl) (Z.keepS hs) (Z.Yd.fieldA (m := 3) rfl (by kernel_rfl)) ?_
                      refine Z.l rfl rfl (by rfl) (Z.keepS hs) (by first | exact Z.Yd.load rfl Try.isAgg3 (fun _ => Z.cellB (by first | ((repeat (first | exact List.mem_cons_self | refine List.mem_cons_of_mem _ ?_ | refine List.mem_append_right _ ?_)); done) | fail) rfl) | exact Z.Yd.load rfl Try.isAgg3 (fun _ => Z.cellO (by assumption) (by simp) (by assumption)) | fail "load 1.17") ?_
                      refine Z.yes (s := 19) (b := false) rfl rfl rfl ?_
                      refine Z.le rfl (by exact ⟨rfl, trivial⟩) ?_
                      refine Z.ZO.call rfl rfl (by rfl) rfl rfl Try.call27 rfl (ac_inside c 1 64 _) ?_
                      rintro v1_18 w1_18 ⟨rfl, hy⟩
                      replace hs := hs.call hy
                      clear hy
                      try simp only [List.cons_append, List.nil_append, List.append_nil] at hs
                      refine Z.lb 1 rfl ?_
                      refine Z.yes (s := 19) (b := false) rfl rfl rfl ?_
                      refine Z.l rfl rfl (by rfl) (Z.keepS hs) (Z.Yd.pickF rfl rfl) ?_
                      refine Z.lb 1 rfl ?_
                      refine Z.split (s := 25) rfl (fun hsp25 => ?_) (fun hsp25 => ?_)
                      · first
                          | (exfalso; simp at hsp25 <;> omega)
                          | (
                            refine Z.yes (s := 25) (b := true) rfl hsp25 rfl ?_
                            (try simp at hsp25)
                            refine Z.ls rfl rfl rfl (by rfl) ?_
                            refine Z.ls rfl rfl rfl (by rfl) ?_
                            refine Z.ls rfl rfl rfl (by rfl) ?_
                            refine Z.ls rfl rfl rfl (by rfl) ?_
                            refine Z.l rfl rfl (by rfl) (Z.keepS hs) (Z.Yd.pickT rfl rfl) ?_
                            refine Z.lnil ?_
                            refine Z.only [1, 30] rfl ?_
                            refine Z.nthen ?_
                            refine Z.cond rfl (fun hc1 => ?_) (fun h => absurd h (by first | (simp; done) | (simp; omega)))
                            refine Z.seq ?_
                            refine Z.region ?_
                            refine Z.lb 2 rfl ?_
                            refine Z.lnil ?_
                            refine Z.only [2, 3] rfl ?_
                            refine Z.nthen ?_
                            refine Z.ret ?_
                            repeat (first | refine Z.rthen ?_ | refine Z.rblock ?_ | refine Z.rscope ?_)
                            -- ret#2
                            refine Z.out2 (by exact ⟨rfl, rfl, trivial⟩) ?_
                            exact ⟨_, rfl, rfl, hs.sub (List.nil_sublist _)⟩
                            )
                      · first
                          | (exfalso; simp at hsp25 <;> omega)
                          | (
                            refine Z.yes (s := 25) (b := false) rfl hsp25 rfl ?_
                            (try simp at hsp25)
                            refine Z.l rfl rfl (by rfl) (Z.keepS hs) (Z.Yd.fieldA (m := 4) rfl (by kernel_rfl)) ?_
                            refine Z.l rfl rfl (by rfl) (Z.keepS hs) (by first | exact Z.Yd.load rfl Try.isAgg3 (fun _ => Z.cellB (by first | ((repeat (first | exact List.mem_cons_self | refine List.mem_cons_of_mem _ ?_ | refine List.mem_append_right _ ?_)); done) | fail) rfl) | exact Z.Yd.load rfl Try.isAgg3 (fun _ => Z.cellO (by assumption) (by simp) (by assumption)) | fail "load 1.23") ?_
                            refine Z.yes (s := 25) (b := false) rfl rfl rfl ?_
                            refine Z.le rfl (by exact ⟨rfl, trivial⟩) ?_
                            refine Z.ZO.call rfl rfl (by rfl) rfl rfl Try.call27 rfl (ac_inside x 1 200 _) ?_
                            rintro v1_24 w1_24 ⟨rfl, hy⟩
                            replace hs := hs.call hy
                            clear hy
                            try simp only [List.cons_append, List.nil_append, List.append_nil] at hs
                            refine Z.lb 1 rfl ?_
                            refine Z.yes (s := 25) (b := false) rfl rfl rfl ?_
                            refine Z.l rfl rfl (by rfl) (Z.keepS hs) (Z.Yd.pickF rfl rfl) ?_
                            refine Z.lnil ?_
                            refine Z.only [1, 30] rfl ?_
                            refine Z.nthen ?_
                            refine Z.cond rfl (fun hc1 => ?_) (fun h => absurd h (by first | (simp; done) | (simp; omega)))
                            refine Z.seq ?_
                            refine Z.region ?_
                            refine Z.lb 2 rfl ?_
                            refine Z.lnil ?_
                            refine Z.only [2, 3] rfl ?_
                            refine Z.nthen ?_
                            refine Z.ret ?_
                            repeat (first | refine Z.rthen ?_ | refine Z.rblock ?_ | refine Z.rscope ?_)
                            -- ret#3
                            refine Z.out2 (by exact ⟨rfl, rfl, trivial⟩) ?_
                            exact ⟨_, rfl, rfl, hs.sub (List.nil_sublist _)⟩
                            )
                      )
                )
          · first
              | (exfalso; simp at hsp13 <;> omega)
              | (
                refine Z.yes (s := 13) (b := false) rfl hsp13 rfl ?_
                (try simp at hsp13)
                refine Z.l rfl rfl (by rfl) (Z.keepS hs) (Z.Yd.fieldA (m := 2) rfl (by kernel_rfl)) ?_
                refine Z.l rfl rfl (by rfl) (Z.keepS hs) (by first | exact Z.Yd.load rfl Try.isAgg3 (fun _ => Z.cellB (by first | ((repeat (first | exact List.mem_cons_self | refine List.mem_cons_of_mem _ ?_ | refine List.mem_append_right _ ?_)); done) | fail) rfl) | exact Z.Yd.load rfl Try.isAgg3 (fun _ => Z.cellO (by assumption) (by simp) (by assumption)) | fail "load 1.11") ?_
                refine Z.yes (s := 13) (b := false) rfl rfl rfl ?_
                refine Z.le rfl (by exact ⟨rfl, trivial⟩) ?_
                refine Z.ZO.call rfl rfl (by rfl) rfl rfl Try.call27 rfl (ac_inside n 1 10 _) ?_
                rintro v1_12 w1_12 ⟨rfl, hy⟩
                replace hs := hs.call hy
                clear hy
                try simp only [List.cons_append, List.nil_append, List.append_nil] at hs
                refine Z.lb 1 rfl ?_
                refine Z.yes (s := 13) (b := false) rfl rfl rfl ?_
                refine Z.l rfl rfl (by rfl) (Z.keepS hs) (Z.Yd.pickF rfl rfl) ?_
                refine Z.lb 1 rfl ?_
                refine Z.split (s := 19) rfl (fun hsp19 => ?_) (fun hsp19 => ?_)
                · first
                    | (exfalso; simp at hsp19 <;> omega)
                    | (
                      refine Z.yes (s := 19) (b := true) rfl hsp19 rfl ?_
                      (try simp at hsp19)
                      refine Z.ls rfl rfl rfl (by rfl) ?_
                      refine Z.ls rfl rfl rfl (by rfl) ?_
                      refine Z.ls rfl rfl rfl (by rfl) ?_
                      refine Z.ls rfl rfl rfl (by rfl) ?_
                      refine Z.l rfl rfl (by rfl) (Z.keepS hs) (Z.Yd.pickT rfl rfl) ?_
                      refine Z.lb 1 rfl ?_
                      refine Z.split (s := 25) rfl (fun hsp25 => ?_) (fun hsp25 => ?_)
                      · first
                          | (exfalso; simp at hsp25 <;> omega)
                          | (
                            refine Z.yes (s := 25) (b := true) rfl hsp25 rfl ?_
                            (try simp at hsp25)
                            refine Z.ls rfl rfl rfl (by rfl) ?_
                            refine Z.ls rfl rfl rfl (by rfl) ?_
                            refine Z.ls rfl rfl rfl (by rfl) ?_
                            refine Z.ls rfl rfl rfl (by rfl) ?_
                            refine Z.l rfl rfl (by rfl) (Z.keepS hs) (Z.Yd.pickT rfl rfl) ?_
                            refine Z.lnil ?_
                            refine Z.only [1, 30] rfl ?_
                            refine Z.nthen ?_
                            refine Z.cond rfl (fun hc1 => ?_) (fun h => absurd h (by first | (simp; done) | (simp; omega)))
                            refine Z.seq ?_
                            refine Z.region ?_
                            refine Z.lb 2 rfl ?_
                            refine Z.lnil ?_
                            refine Z.only [2, 3] rfl ?_
                            refine Z.nthen ?_
                            refine Z.ret ?_
                            repeat (first | refine Z.rthen ?_ | refine Z.rblock ?_ | refine Z.rscope ?_)
                            -- ret#4
                            refine Z.out2 (by exact ⟨rfl, rfl, trivial⟩) ?_
                            exact ⟨_, rfl, rfl, hs.sub (List.nil_sublist _)⟩
                            )
                      · first
                          | (exfalso; simp at hsp25 <;> omega)
                          | (
                            refine Z.yes (s := 25) (b := false) rfl hsp25 rfl ?_
                            (try simp at hsp25)
                            refine Z.l rfl rfl (by rfl) (Z.keepS hs) (Z.Yd.fieldA (m := 4) rfl (by kernel_rfl)) ?_
                            refine Z.l rfl rfl (by rfl) (Z.keepS hs) (by first | exact Z.Yd.load rfl Try.isAgg3 (fun _ => Z.cellB (by first | ((repeat (first | exact List.mem_cons_self | refine List.mem_cons_of_mem _ ?_ | refine List.mem_append_right _ ?_)); done) | fail) rfl) | exact Z.Yd.load rfl Try.isAgg3 (fun _ => Z.cellO (by assumption) (by simp) (by assumption)) | fail "load 1.23") ?_
                            refine Z.yes (s := 25) (b := false) rfl rfl rfl ?_
                            refine Z.le rfl (by exact ⟨rfl, trivial⟩) ?_
                            refine Z.ZO.call rfl rfl (by rfl) rfl rfl Try.call27 rfl (ac_inside x 1 200 _) ?_
                            rintro v1_24 w1_24 ⟨rfl, hy⟩
                            replace hs := hs.call hy
                            clear hy
                            try simp only [List.cons_append, List.nil_append, List.append_nil] at hs
                            refine Z.lb 1 rfl ?_
                            refine Z.yes (s := 25) (b := false) rfl rfl rfl ?_
                            refine Z.l rfl rfl (by rfl) (Z.keepS hs) (Z.Yd.pickF rfl rfl) ?_
                            refine Z.lnil ?_
                            refine Z.only [1, 30] rfl ?_
                            refine Z.nthen ?_
                            refine Z.cond rfl (fun hc1 => ?_) (fun h => absurd h (by first | (simp; done) | (simp; omega)))
                            refine Z.seq ?_
                            refine Z.region ?_
                            refine Z.lb 2 rfl ?_
                            refine Z.lnil ?_
                            refine Z.only [2, 3] rfl ?_
                            refine Z.nthen ?_
                            refine Z.ret ?_
                            repeat (first | refine Z.rthen ?_ | refine Z.rblock ?_ | refine Z.rscope ?_)
                            -- ret#5
                            refine Z.out2 (by exact ⟨rfl, rfl, trivial⟩) ?_
                            exact ⟨_, rfl, rfl, hs.sub (List.nil_sublist _)⟩
                            )
                      )
                · first
                    | (exfalso; simp at hsp19 <;> omega)
                    | (
                      refine Z.yes (s := 19) (b := false) rfl hsp19 rfl ?_
                      (try simp at hsp19)
                      refine Z.l rfl rfl (by rfl) (Z.keepS hs) (Z.Yd.fieldA (m := 3) rfl (by kernel_rfl)) ?_
                      refine Z.l rfl rfl (by rfl) (Z.keepS hs) (by first | exact Z.Yd.load rfl Try.isAgg3 (fun _ => Z.cellB (by first | ((repeat (first | exact List.mem_cons_self | refine List.mem_cons_of_mem _ ?_ | refine List.mem_append_right _ ?_)); done) | fail) rfl) | exact Z.Yd.load rfl Try.isAgg3 (fun _ => Z.cellO (by assumption) (by simp) (by assumption)) | fail "load 1.17") ?_
                      refine Z.yes (s := 19) (b := false) rfl rfl rfl ?_
                      refine Z.le rfl (by exact ⟨rfl, trivial⟩) ?_
                      refine Z.ZO.call rfl rfl (by rfl) rfl rfl Try.call27 rfl (ac_inside c 1 64 _) ?_
                      rintro v1_18 w1_18 ⟨rfl, hy⟩
                      replace hs := hs.call hy
                      clear hy
                      try simp only [List.cons_append, List.nil_append, List.append_nil] at hs
                      refine Z.lb 1 rfl ?_
                      refine Z.yes (s := 19) (b := false) rfl rfl rfl ?_
                      refine Z.l rfl rfl (by rfl) (Z.keepS hs) (Z.Yd.pickF rfl rfl) ?_
                      refine Z.lb 1 rfl ?_
                      refine Z.split (s := 25) rfl (fun hsp25 => ?_) (fun hsp25 => ?_)
                      · first
                          | (exfalso; simp at hsp25 <;> omega)
                          | (
                            refine Z.yes (s := 25) (b := true) rfl hsp25 rfl ?_
                            (try simp at hsp25)
                            refine Z.ls rfl rfl rfl (by rfl) ?_
                            refine Z.ls rfl rfl rfl (by rfl) ?_
                            refine Z.ls rfl rfl rfl (by rfl) ?_
                            refine Z.ls rfl rfl rfl (by rfl) ?_
                            refine Z.l rfl rfl (by rfl) (Z.keepS hs) (Z.Yd.pickT rfl rfl) ?_
                            refine Z.lnil ?_
                            refine Z.only [1, 30] rfl ?_
                            refine Z.nthen ?_
                            refine Z.cond rfl (fun hc1 => ?_) (fun h => absurd h (by first | (simp; done) | (simp; omega)))
                            refine Z.seq ?_
                            refine Z.region ?_
                            refine Z.lb 2 rfl ?_
                            refine Z.lnil ?_
                            refine Z.only [2, 3] rfl ?_
                            refine Z.nthen ?_
                            refine Z.ret ?_
                            repeat (first | refine Z.rthen ?_ | refine Z.rblock ?_ | refine Z.rscope ?_)
                            -- ret#6
                            refine Z.out2 (by exact ⟨rfl, rfl, trivial⟩) ?_
                            exact ⟨_, rfl, rfl, hs.sub (List.nil_sublist _)⟩
                            )
                      · first
                          | (exfalso; simp at hsp25 <;> omega)
                          | (
                            refine Z.yes (s := 25) (b := false) rfl hsp25 rfl ?_
                            (try simp at hsp25)
                            refine Z.l rfl rfl (by rfl) (Z.keepS hs) (Z.Yd.fieldA (m := 4) rfl (by kernel_rfl)) ?_
                            refine Z.l rfl rfl (by rfl) (Z.keepS hs) (by first | exact Z.Yd.load rfl Try.isAgg3 (fun _ => Z.cellB (by first | ((repeat (first | exact List.mem_cons_self | refine List.mem_cons_of_mem _ ?_ | refine List.mem_append_right _ ?_)); done) | fail) rfl) | exact Z.Yd.load rfl Try.isAgg3 (fun _ => Z.cellO (by assumption) (by simp) (by assumption)) | fail "load 1.23") ?_
                            refine Z.yes (s := 25) (b := false) rfl rfl rfl ?_
                            refine Z.le rfl (by exact ⟨rfl, trivial⟩) ?_
                            refine Z.ZO.call rfl rfl (by rfl) rfl rfl Try.call27 rfl (ac_inside x 1 200 _) ?_
                            rintro v1_24 w1_24 ⟨rfl, hy⟩
                            replace hs := hs.call hy
                            clear hy
                            try simp only [List.cons_append, List.nil_append, List.append_nil] at hs
                            refine Z.lb 1 rfl ?_
                            refine Z.yes (s := 25) (b := false) rfl rfl rfl ?_
                            refine Z.l rfl rfl (by rfl) (Z.keepS hs) (Z.Yd.pickF rfl rfl) ?_
                            refine Z.lnil ?_
                            refine Z.only [1, 30] rfl ?_
                            refine Z.nthen ?_
                            refine Z.cond rfl (fun hc1 => ?_) (fun h => absurd h (by first | (simp; done) | (simp; omega)))
                            refine Z.seq ?_
                            refine Z.region ?_
                            refine Z.lb 2 rfl ?_
                            refine Z.lnil ?_
                            refine Z.only [2, 3] rfl ?_
                            refine Z.nthen ?_
                            refine Z.ret ?_
                            repeat (first | refine Z.rthen ?_ | refine Z.rblock ?_ | refine Z.rscope ?_)
                            -- ret#7
                            refine Z.out2 (by exact ⟨rfl, rfl, trivial⟩) ?_
                            exact ⟨_, rfl, rfl, hs.sub (List.nil_sublist _)⟩
                            )
                      )
                )
          )
    · first
        | (exfalso; simp at hsp7 <;> omega)
        | (
          refine Z.yes (s := 7) (b := false) rfl hsp7 rfl ?_
          (try simp at hsp7)
          refine Z.l rfl rfl (by rfl) (Z.keepS hs) (Z.Yd.fieldA (m := 1) rfl (by kernel_rfl)) ?_
          refine Z.l rfl rfl (by rfl) (Z.keepS hs) (by first | exact Z.Yd.load rfl Try.isAgg3 (fun _ => Z.cellB (by first | ((repeat (first | exact List.mem_cons_self | refine List.mem_cons_of_mem _ ?_ | refine List.mem_append_right _ ?_)); done) | fail) rfl) | exact Z.Yd.load rfl Try.isAgg3 (fun _ => Z.cellO (by assumption) (by simp) (by assumption)) | fail "load 1.5") ?_
          refine Z.yes (s := 7) (b := false) rfl rfl rfl ?_
          refine Z.le rfl (by exact ⟨rfl, trivial⟩) ?_
          refine Z.ZO.call rfl rfl (by rfl) rfl rfl Try.call27 rfl (ac_inside r 0 65535 _) ?_
          rintro v1_6 w1_6 ⟨rfl, hy⟩
          replace hs := hs.call hy
          clear hy
          try simp only [List.cons_append, List.nil_append, List.append_nil] at hs
          refine Z.lb 1 rfl ?_
          refine Z.yes (s := 7) (b := false) rfl rfl rfl ?_
          refine Z.l rfl rfl (by rfl) (Z.keepS hs) (Z.Yd.pickF rfl rfl) ?_
          refine Z.lb 1 rfl ?_
          refine Z.split (s := 13) rfl (fun hsp13 => ?_) (fun hsp13 => ?_)
          · first
              | (exfalso; simp at hsp13 <;> omega)
              | (
                refine Z.yes (s := 13) (b := true) rfl hsp13 rfl ?_
                (try simp at hsp13)
                refine Z.ls rfl rfl rfl (by rfl) ?_
                refine Z.ls rfl rfl rfl (by rfl) ?_
                refine Z.ls rfl rfl rfl (by rfl) ?_
                refine Z.ls rfl rfl rfl (by rfl) ?_
                refine Z.l rfl rfl (by rfl) (Z.keepS hs) (Z.Yd.pickT rfl rfl) ?_
                refine Z.lb 1 rfl ?_
                refine Z.split (s := 19) rfl (fun hsp19 => ?_) (fun hsp19 => ?_)
                · first
                    | (exfalso; simp at hsp19 <;> omega)
                    | (
                      refine Z.yes (s := 19) (b := true) rfl hsp19 rfl ?_
                      (try simp at hsp19)
                      refine Z.ls rfl rfl rfl (by rfl) ?_
                      refine Z.ls rfl rfl rfl (by rfl) ?_
                      refine Z.ls rfl rfl rfl (by rfl) ?_
                      refine Z.ls rfl rfl rfl (by rfl) ?_
                      refine Z.l rfl rfl (by rfl) (Z.keepS hs) (Z.Yd.pickT rfl rfl) ?_
                      refine Z.lb 1 rfl ?_
                      refine Z.split (s := 25) rfl (fun hsp25 => ?_) (fun hsp25 => ?_)
                      · first
                          | (exfalso; simp at hsp25 <;> omega)
                          | (
                            refine Z.yes (s := 25) (b := true) rfl hsp25 rfl ?_
                            (try simp at hsp25)
                            refine Z.ls rfl rfl rfl (by rfl) ?_
                            refine Z.ls rfl rfl rfl (by rfl) ?_
                            refine Z.ls rfl rfl rfl (by rfl) ?_
                            refine Z.ls rfl rfl rfl (by rfl) ?_
                            refine Z.l rfl rfl (by rfl) (Z.keepS hs) (Z.Yd.pickT rfl rfl) ?_
                            refine Z.lnil ?_
                            refine Z.only [1, 30] rfl ?_
                            refine Z.nthen ?_
                            refine Z.cond rfl (fun hc1 => ?_) (fun h => absurd h (by first | (simp; done) | (simp; omega)))
                            refine Z.seq ?_
                            refine Z.region ?_
                            refine Z.lb 2 rfl ?_
                            refine Z.lnil ?_
                            refine Z.only [2, 3] rfl ?_
                            refine Z.nthen ?_
                            refine Z.ret ?_
                            repeat (first | refine Z.rthen ?_ | refine Z.rblock ?_ | refine Z.rscope ?_)
                            -- ret#8
                            refine Z.out2 (by exact ⟨rfl, rfl, trivial⟩) ?_
                            exact ⟨_, rfl, rfl, hs.sub (List.nil_sublist _)⟩
                            )
                      · first
                          | (exfalso; simp at hsp25 <;> omega)
                          | (
                            refine Z.yes (s := 25) (b := false) rfl hsp25 rfl ?_
                            (try simp at hsp25)
                            refine Z.l rfl rfl (by rfl) (Z.keepS hs) (Z.Yd.fieldA (m := 4) rfl (by kernel_rfl)) ?_
                            refine Z.l rfl rfl (by rfl) (Z.keepS hs) (by first | exact Z.Yd.load rfl Try.isAgg3 (fun _ => Z.cellB (by first | ((repeat (first | exact List.mem_cons_self | refine List.mem_cons_of_mem _ ?_ | refine List.mem_append_right _ ?_)); done) | fail) rfl) | exact Z.Yd.load rfl Try.isAgg3 (fun _ => Z.cellO (by assumption) (by simp) (by assumption)) | fail "load 1.23") ?_
                            refine Z.yes (s := 25) (b := false) rfl rfl rfl ?_
                            refine Z.le rfl (by exact ⟨rfl, trivial⟩) ?_
                            refine Z.ZO.call rfl rfl (by rfl) rfl rfl Try.call27 rfl (ac_inside x 1 200 _) ?_
                            rintro v1_24 w1_24 ⟨rfl, hy⟩
                            replace hs := hs.call hy
                            clear hy
                            try simp only [List.cons_append, List.nil_append, List.append_nil] at hs
                            refine Z.lb 1 rfl ?_
                            refine Z.yes (s := 25) (b := false) rfl rfl rfl ?_
                            refine Z.l rfl rfl (by rfl) (Z.keepS hs) (Z.Yd.pickF rfl rfl) ?_
                            refine Z.lnil ?_
                            refine Z.only [1, 30] rfl ?_
                            refine Z.nthen ?_
                            refine Z.cond rfl (fun hc1 => ?_) (fun h => absurd h (by first | (simp; done) | (simp; omega)))
                            refine Z.seq ?_
                            refine Z.region ?_
                            refine Z.lb 2 rfl ?_
                            refine Z.lnil ?_
                            refine Z.only [2, 3] rfl ?_
                            refine Z.nthen ?_
                            refine Z.ret ?_
                            repeat (first | refine Z.rthen ?_ | refine Z.rblock ?_ | refine Z.rscope ?_)
                            -- ret#9
                            refine Z.out2 (by exact ⟨rfl, rfl, trivial⟩) ?_
                            exact ⟨_, rfl, rfl, hs.sub (List.nil_sublist _)⟩
                            )
                      )
                · first
                    | (exfalso; simp at hsp19 <;> omega)
                    | (
                      refine Z.yes (s := 19) (b := false) rfl hsp19 rfl ?_
                      (try simp at hsp19)
                      refine Z.l rfl rfl (by rfl) (Z.keepS hs) (Z.Yd.fieldA (m := 3) rfl (by kernel_rfl)) ?_
                      refine Z.l rfl rfl (by rfl) (Z.keepS hs) (by first | exact Z.Yd.load rfl Try.isAgg3 (fun _ => Z.cellB (by first | ((repeat (first | exact List.mem_cons_self | refine List.mem_cons_of_mem _ ?_ | refine List.mem_append_right _ ?_)); done) | fail) rfl) | exact Z.Yd.load rfl Try.isAgg3 (fun _ => Z.cellO (by assumption) (by simp) (by assumption)) | fail "load 1.17") ?_
                      refine Z.yes (s := 19) (b := false) rfl rfl rfl ?_
                      refine Z.le rfl (by exact ⟨rfl, trivial⟩) ?_
                      refine Z.ZO.call rfl rfl (by rfl) rfl rfl Try.call27 rfl (ac_inside c 1 64 _) ?_
                      rintro v1_18 w1_18 ⟨rfl, hy⟩
                      replace hs := hs.call hy
                      clear hy
                      try simp only [List.cons_append, List.nil_append, List.append_nil] at hs
                      refine Z.lb 1 rfl ?_
                      refine Z.yes (s := 19) (b := false) rfl rfl rfl ?_
                      refine Z.l rfl rfl (by rfl) (Z.keepS hs) (Z.Yd.pickF rfl rfl) ?_
                      refine Z.lb 1 rfl ?_
                      refine Z.split (s := 25) rfl (fun hsp25 => ?_) (fun hsp25 => ?_)
                      · first
                          | (exfalso; simp at hsp25 <;> omega)
                          | (
                            refine Z.yes (s := 25) (b := true) rfl hsp25 rfl ?_
                            (try simp at hsp25)
                            refine Z.ls rfl rfl rfl (by rfl) ?_
                            refine Z.ls rfl rfl rfl (by rfl) ?_
                            refine Z.ls rfl rfl rfl (by rfl) ?_
                            refine Z.ls rfl rfl rfl (by rfl) ?_
                            refine Z.l rfl rfl (by rfl) (Z.keepS hs) (Z.Yd.pickT rfl rfl) ?_
                            refine Z.lnil ?_
                            refine Z.only [1, 30] rfl ?_
                            refine Z.nthen ?_
                            refine Z.cond rfl (fun hc1 => ?_) (fun h => absurd h (by first | (simp; done) | (simp; omega)))
                            refine Z.seq ?_
                            refine Z.region ?_
                            refine Z.lb 2 rfl ?_
                            refine Z.lnil ?_
                            refine Z.only [2, 3] rfl ?_
                            refine Z.nthen ?_
                            refine Z.ret ?_
                            repeat (first | refine Z.rthen ?_ | refine Z.rblock ?_ | refine Z.rscope ?_)
                            -- ret#10
                            refine Z.out2 (by exact ⟨rfl, rfl, trivial⟩) ?_
                            exact ⟨_, rfl, rfl, hs.sub (List.nil_sublist _)⟩
                            )
                      · first
                          | (exfalso; simp at hsp25 <;> omega)
                          | (
                            refine Z.yes (s := 25) (b := false) rfl hsp25 rfl ?_
                            (try simp at hsp25)
                            refine Z.l rfl rfl (by rfl) (Z.keepS hs) (Z.Yd.fieldA (m := 4) rfl (by kernel_rfl)) ?_
                            refine Z.l rfl rfl (by rfl) (Z.keepS hs) (by first | exact Z.Yd.load rfl Try.isAgg3 (fun _ => Z.cellB (by first | ((repeat (first | exact List.mem_cons_self | refine List.mem_cons_of_mem _ ?_ | refine List.mem_append_right _ ?_)); done) | fail) rfl) | exact Z.Yd.load rfl Try.isAgg3 (fun _ => Z.cellO (by assumption) (by simp) (by assumption)) | fail "load 1.23") ?_
                            refine Z.yes (s := 25) (b := false) rfl rfl rfl ?_
                            refine Z.le rfl (by exact ⟨rfl, trivial⟩) ?_
                            refine Z.ZO.call rfl rfl (by rfl) rfl rfl Try.call27 rfl (ac_inside x 1 200 _) ?_
                            rintro v1_24 w1_24 ⟨rfl, hy⟩
                            replace hs := hs.call hy
                            clear hy
                            try simp only [List.cons_append, List.nil_append, List.append_nil] at hs
                            refine Z.lb 1 rfl ?_
                            refine Z.yes (s := 25) (b := false) rfl rfl rfl ?_
                            refine Z.l rfl rfl (by rfl) (Z.keepS hs) (Z.Yd.pickF rfl rfl) ?_
                            refine Z.lnil ?_
                            refine Z.only [1, 30] rfl ?_
                            refine Z.nthen ?_
                            refine Z.cond rfl (fun hc1 => ?_) (fun h => absurd h (by first | (simp; done) | (simp; omega)))
                            refine Z.seq ?_
                            refine Z.region ?_
                            refine Z.lb 2 rfl ?_
                            refine Z.lnil ?_
                            refine Z.only [2, 3] rfl ?_
                            refine Z.nthen ?_
                            refine Z.ret ?_
                            repeat (first | refine Z.rthen ?_ | refine Z.rblock ?_ | refine Z.rscope ?_)
                            -- ret#11
                            refine Z.out2 (by exact ⟨rfl, rfl, trivial⟩) ?_
                            exact ⟨_, rfl, rfl, hs.sub (List.nil_sublist _)⟩
                            )
                      )
                )
          · first
              | (exfalso; simp at hsp13 <;> omega)
              | (
                refine Z.yes (s := 13) (b := false) rfl hsp13 rfl ?_
                (try simp at hsp13)
                refine Z.l rfl rfl (by rfl) (Z.keepS hs) (Z.Yd.fieldA (m := 2) rfl (by kernel_rfl)) ?_
                refine Z.l rfl rfl (by rfl) (Z.keepS hs) (by first | exact Z.Yd.load rfl Try.isAgg3 (fun _ => Z.cellB (by first | ((repeat (first | exact List.mem_cons_self | refine List.mem_cons_of_mem _ ?_ | refine List.mem_append_right _ ?_)); done) | fail) rfl) | exact Z.Yd.load rfl Try.isAgg3 (fun _ => Z.cellO (by assumption) (by simp) (by assumption)) | fail "load 1.11") ?_
                refine Z.yes (s := 13) (b := false) rfl rfl rfl ?_
                refine Z.le rfl (by exact ⟨rfl, trivial⟩) ?_
                refine Z.ZO.call rfl rfl (by rfl) rfl rfl Try.call27 rfl (ac_inside n 1 10 _) ?_
                rintro v1_12 w1_12 ⟨rfl, hy⟩
                replace hs := hs.call hy
                clear hy
                try simp only [List.cons_append, List.nil_append, List.append_nil] at hs
                refine Z.lb 1 rfl ?_
                refine Z.yes (s := 13) (b := false) rfl rfl rfl ?_
                refine Z.l rfl rfl (by rfl) (Z.keepS hs) (Z.Yd.pickF rfl rfl) ?_
                refine Z.lb 1 rfl ?_
                refine Z.split (s := 19) rfl (fun hsp19 => ?_) (fun hsp19 => ?_)
                · first
                    | (exfalso; simp at hsp19 <;> omega)
                    | (
                      refine Z.yes (s := 19) (b := true) rfl hsp19 rfl ?_
                      (try simp at hsp19)
                      refine Z.ls rfl rfl rfl (by rfl) ?_
                      refine Z.ls rfl rfl rfl (by rfl) ?_
                      refine Z.ls rfl rfl rfl (by rfl) ?_
                      refine Z.ls rfl rfl rfl (by rfl) ?_
                      refine Z.l rfl rfl (by rfl) (Z.keepS hs) (Z.Yd.pickT rfl rfl) ?_
                      refine Z.lb 1 rfl ?_
                      refine Z.split (s := 25) rfl (fun hsp25 => ?_) (fun hsp25 => ?_)
                      · first
                          | (exfalso; simp at hsp25 <;> omega)
                          | (
                            refine Z.yes (s := 25) (b := true) rfl hsp25 rfl ?_
                            (try simp at hsp25)
                            refine Z.ls rfl rfl rfl (by rfl) ?_
                            refine Z.ls rfl rfl rfl (by rfl) ?_
                            refine Z.ls rfl rfl rfl (by rfl) ?_
                            refine Z.ls rfl rfl rfl (by rfl) ?_
                            refine Z.l rfl rfl (by rfl) (Z.keepS hs) (Z.Yd.pickT rfl rfl) ?_
                            refine Z.lnil ?_
                            refine Z.only [1, 30] rfl ?_
                            refine Z.nthen ?_
                            refine Z.cond rfl (fun hc1 => ?_) (fun h => absurd h (by first | (simp; done) | (simp; omega)))
                            refine Z.seq ?_
                            refine Z.region ?_
                            refine Z.lb 2 rfl ?_
                            refine Z.lnil ?_
                            refine Z.only [2, 3] rfl ?_
                            refine Z.nthen ?_
                            refine Z.ret ?_
                            repeat (first | refine Z.rthen ?_ | refine Z.rblock ?_ | refine Z.rscope ?_)
                            -- ret#12
                            refine Z.out2 (by exact ⟨rfl, rfl, trivial⟩) ?_
                            exact ⟨_, rfl, rfl, hs.sub (List.nil_sublist _)⟩
                            )
                      · first
                          | (exfalso; simp at hsp25 <;> omega)
                          | (
                            refine Z.yes (s := 25) (b := false) rfl hsp25 rfl ?_
                            (try simp at hsp25)
                            refine Z.l rfl rfl (by rfl) (Z.keepS hs) (Z.Yd.fieldA (m := 4) rfl (by kernel_rfl)) ?_
                            refine Z.l rfl rfl (by rfl) (Z.keepS hs) (by first | exact Z.Yd.load rfl Try.isAgg3 (fun _ => Z.cellB (by first | ((repeat (first | exact List.mem_cons_self | refine List.mem_cons_of_mem _ ?_ | refine List.mem_append_right _ ?_)); done) | fail) rfl) | exact Z.Yd.load rfl Try.isAgg3 (fun _ => Z.cellO (by assumption) (by simp) (by assumption)) | fail "load 1.23") ?_
                            refine Z.yes (s := 25) (b := false) rfl rfl rfl ?_
                            refine Z.le rfl (by exact ⟨rfl, trivial⟩) ?_
                            refine Z.ZO.call rfl rfl (by rfl) rfl rfl Try.call27 rfl (ac_inside x 1 200 _) ?_
                            rintro v1_24 w1_24 ⟨rfl, hy⟩
                            replace hs := hs.call hy
                            clear hy
                            try simp only [List.cons_append, List.nil_append, List.append_nil] at hs
                            refine Z.lb 1 rfl ?_
                            refine Z.yes (s := 25) (b := false) rfl rfl rfl ?_
                            refine Z.l rfl rfl (by rfl) (Z.keepS hs) (Z.Yd.pickF rfl rfl) ?_
                            refine Z.lnil ?_
                            refine Z.only [1, 30] rfl ?_
                            refine Z.nthen ?_
                            refine Z.cond rfl (fun hc1 => ?_) (fun h => absurd h (by first | (simp; done) | (simp; omega)))
                            refine Z.seq ?_
                            refine Z.region ?_
                            refine Z.lb 2 rfl ?_
                            refine Z.lnil ?_
                            refine Z.only [2, 3] rfl ?_
                            refine Z.nthen ?_
                            refine Z.ret ?_
                            repeat (first | refine Z.rthen ?_ | refine Z.rblock ?_ | refine Z.rscope ?_)
                            -- ret#13
                            refine Z.out2 (by exact ⟨rfl, rfl, trivial⟩) ?_
                            exact ⟨_, rfl, rfl, hs.sub (List.nil_sublist _)⟩
                            )
                      )
                · first
                    | (exfalso; simp at hsp19 <;> omega)
                    | (
                      refine Z.yes (s := 19) (b := false) rfl hsp19 rfl ?_
                      (try simp at hsp19)
                      refine Z.l rfl rfl (by rfl) (Z.keepS hs) (Z.Yd.fieldA (m := 3) rfl (by kernel_rfl)) ?_
                      refine Z.l rfl rfl (by rfl) (Z.keepS hs) (by first | exact Z.Yd.load rfl Try.isAgg3 (fun _ => Z.cellB (by first | ((repeat (first | exact List.mem_cons_self | refine List.mem_cons_of_mem _ ?_ | refine List.mem_append_right _ ?_)); done) | fail) rfl) | exact Z.Yd.load rfl Try.isAgg3 (fun _ => Z.cellO (by assumption) (by simp) (by assumption)) | fail "load 1.17") ?_
                      refine Z.yes (s := 19) (b := false) rfl rfl rfl ?_
                      refine Z.le rfl (by exact ⟨rfl, trivial⟩) ?_
                      refine Z.ZO.call rfl rfl (by rfl) rfl rfl Try.call27 rfl (ac_inside c 1 64 _) ?_
                      rintro v1_18 w1_18 ⟨rfl, hy⟩
                      replace hs := hs.call hy
                      clear hy
                      try simp only [List.cons_append, List.nil_append, List.append_nil] at hs
                      refine Z.lb 1 rfl ?_
                      refine Z.yes (s := 19) (b := false) rfl rfl rfl ?_
                      refine Z.l rfl rfl (by rfl) (Z.keepS hs) (Z.Yd.pickF rfl rfl) ?_
                      refine Z.lb 1 rfl ?_
                      refine Z.split (s := 25) rfl (fun hsp25 => ?_) (fun hsp25 => ?_)
                      · first
                          | (exfalso; simp at hsp25 <;> omega)
                          | (
                            refine Z.yes (s := 25) (b := true) rfl hsp25 rfl ?_
                            (try simp at hsp25)
                            refine Z.ls rfl rfl rfl (by rfl) ?_
                            refine Z.ls rfl rfl rfl (by rfl) ?_
                            refine Z.ls rfl rfl rfl (by rfl) ?_
                            refine Z.ls rfl rfl rfl (by rfl) ?_
                            refine Z.l rfl rfl (by rfl) (Z.keepS hs) (Z.Yd.pickT rfl rfl) ?_
                            refine Z.lnil ?_
                            refine Z.only [1, 30] rfl ?_
                            refine Z.nthen ?_
                            refine Z.cond rfl (fun hc1 => ?_) (fun h => absurd h (by first | (simp; done) | (simp; omega)))
                            refine Z.seq ?_
                            refine Z.region ?_
                            refine Z.lb 2 rfl ?_
                            refine Z.lnil ?_
                            refine Z.only [2, 3] rfl ?_
                            refine Z.nthen ?_
                            refine Z.ret ?_
                            repeat (first | refine Z.rthen ?_ | refine Z.rblock ?_ | refine Z.rscope ?_)
                            -- ret#14
                            refine Z.out2 (by exact ⟨rfl, rfl, trivial⟩) ?_
                            exact ⟨_, rfl, rfl, hs.sub (List.nil_sublist _)⟩
                            )
                      · first
                          | (exfalso; simp at hsp25 <;> omega)
                          | (
                            refine Z.yes (s := 25) (b := false) rfl hsp25 rfl ?_
                            (try simp at hsp25)
                            refine Z.l rfl rfl (by rfl) (Z.keepS hs) (Z.Yd.fieldA (m := 4) rfl (by kernel_rfl)) ?_
                            refine Z.l rfl rfl (by rfl) (Z.keepS hs) (by first | exact Z.Yd.load rfl Try.isAgg3 (fun _ => Z.cellB (by first | ((repeat (first | exact List.mem_cons_self | refine List.mem_cons_of_mem _ ?_ | refine List.mem_append_right _ ?_)); done) | fail) rfl) | exact Z.Yd.load rfl Try.isAgg3 (fun _ => Z.cellO (by assumption) (by simp) (by assumption)) | fail "load 1.23") ?_
                            refine Z.yes (s := 25) (b := false) rfl rfl rfl ?_
                            refine Z.le rfl (by exact ⟨rfl, trivial⟩) ?_
                            refine Z.ZO.call rfl rfl (by rfl) rfl rfl Try.call27 rfl (ac_inside x 1 200 _) ?_
                            rintro v1_24 w1_24 ⟨rfl, hy⟩
                            replace hs := hs.call hy
                            clear hy
                            try simp only [List.cons_append, List.nil_append, List.append_nil] at hs
                            refine Z.lb 1 rfl ?_
                            refine Z.yes (s := 25) (b := false) rfl rfl rfl ?_
                            refine Z.l rfl rfl (by rfl) (Z.keepS hs) (Z.Yd.pickF rfl rfl) ?_
                            refine Z.lnil ?_
                            refine Z.only [1, 30] rfl ?_
                            refine Z.nthen ?_
                            refine Z.cond rfl (fun hc1 => ?_) (fun h => absurd h (by first | (simp; done) | (simp; omega)))
                            refine Z.seq ?_
                            refine Z.region ?_
                            refine Z.lb 2 rfl ?_
                            refine Z.lnil ?_
                            refine Z.only [2, 3] rfl ?_
                            refine Z.nthen ?_
                            refine Z.ret ?_
                            repeat (first | refine Z.rthen ?_ | refine Z.rblock ?_ | refine Z.rscope ?_)
                            -- ret#15
                            refine Z.out2 (by exact ⟨rfl, rfl, trivial⟩) ?_
                            exact ⟨_, rfl, rfl, hs.sub (List.nil_sublist _)⟩
                            )
                      )
                )
          )
end Go.Proofs.Ytjgfooakcljddaa

/- Random access of a handset: the document's. -/
namespace Go.Proofs.Ytjgfooakcljddaa
open Go.RowKit
set_option linter.unusedSimpArgs false
set_option linter.unusedVariables false
--newlaws

theorem acr_fail (m : AcV) (w : World) (hm : m.ok) :
    Calls Try.prog 58 #[.agg m.cells.toArray] w (SX.Ret fun v w' => v = .agg (failV m).cells.toArray ∧ SX.St w [] w' []) := by
  have hs := SX.St.start w
  show Calls Try.prog 58 #[.agg #[.int .u64 (m).id, .int .i64 (m).rnt, .int .i64 (m).win, .int .i64 (m).con, .int .i64 (m).max, .int .i64 (m).st, .int .i64 (m).now, .int .i64 (m).due, .int .i64 (m).frm, .int .i64 (m).pre, .int .i64 (m).att, .int .i64 (m).bnd, .int .i64 (m).rn]] w _
  obtain ⟨h1, h2, h3, h4, h5, h6, h7, h8, h9, h10⟩ := hm
  have h11 := h1.1
  have hb := acB_bd m.id m.att m.bnd
  refine Z.enter Try.func58 rfl Try.ntmps58 rfl rfl ?_
  refine Z.seq ?_
  refine Z.region ?_
  refine Z.le rfl trivial ?_
  refine Z.ZO.box rfl rfl (by rfl) rfl rfl hs ?_
  clear hs; intro g1 w1 hs
  refine Z.le rfl trivial ?_
  refine Z.ZO.alloc rfl rfl (by rfl) Try.zeroValue51 rfl hs ?_
  clear hs; intro g2 w2 hs
  refine Z.lnil ?_
  refine Z.only [1, 2] rfl ?_
  refine Z.nthen ?_
  refine Z.seq ?_
  refine Z.seq ?_
  refine Z.region ?_
  refine Z.l rfl rfl (by rfl) (Z.keepS hs) (Z.Yd.fieldA (m := 10) rfl (by kernel_rfl)) ?_
  refine Z.l rfl rfl (by rfl) (Z.keepS hs) (by first | exact Z.Yd.load rfl Try.isAgg3 (fun _ => Z.cellB (by first | ((repeat (first | exact List.mem_cons_self | refine List.mem_cons_of_mem _ ?_ | refine List.mem_append_right _ ?_)); done) | fail) rfl) | exact Z.Yd.load rfl Try.isAgg3 (fun _ => Z.cellO (by assumption) (by simp) (by assumption)) | fail "load 1.1") ?_
  refine Z.l rfl rfl (by rfl) (Z.keepS hs) (Z.Yd.fieldA (m := 0) rfl (by kernel_rfl)) ?_
  refine Z.l rfl rfl (by rfl) (Z.keepS hs) (Z.Yd.fieldA (m := 4) rfl (by kernel_rfl)) ?_
  refine Z.l rfl rfl (by rfl) (Z.keepS hs) (by first | exact Z.Yd.load rfl Try.isAgg3 (fun _ => Z.cellB (by first | ((repeat (first | exact List.mem_cons_self | refine List.mem_cons_of_mem _ ?_ | refine List.mem_append_right _ ?_)); done) | fail) rfl) | exact Z.Yd.load rfl Try.isAgg3 (fun _ => Z.cellO (by assumption) (by simp) (by assumption)) | fail "load 1.4") ?_
  refine Z.lb 1 rfl ?_
  refine Z.lnil ?_
  refine Z.only [1, 2, 8] rfl ?_
  refine Z.nthen ?_
  refine Z.cond rfl (fun hc1 => ?_) (fun hc1 => ?_)
  · first
      | (exfalso; simp at hc1 <;> omega)
      | (
        (try simp at hc1)
        have e : failV m = { m with st := 5, due := -1 } := if_pos (by omega)
        rw [e]
        refine Z.seq ?_
        refine Z.region ?_
        refine Z.l rfl rfl (by rfl) (Z.keepS hs) (Z.Yd.fieldA (m := 5) rfl (by kernel_rfl)) ?_
        refine Z.le rfl trivial ?_
        first | refine Z.ZO.store rfl rfl hs Try.sizeOf44 rfl rfl rfl (by first | exact SX.at0 | exact SX.at1 | exact SX.at2 | exact SX.at3 | exact SX.at4 | exact SX.at5 | exact Z.at6 | exact Z.at7 | exact Z.at8 | exact Z.at9 | exact Z.at10 | exact Z.at11 | exact Z.at12) (by first | (simp; done) | (simp; omega)) ?_ | refine Z.ZO.storeR rfl rfl hs Try.sizeOf44 rfl rfl rfl (by first | exact SX.at0 | exact SX.at1 | exact SX.at2 | exact SX.at3 | exact SX.at4 | exact SX.at5 | exact Z.at6 | exact Z.at7 | exact Z.at8 | exact Z.at9 | exact Z.at10 | exact Z.at11 | exact Z.at12) (by first | omega | (simp [ints_length]; done) | (simp [ints_length]; omega)) ?_
        clear hs; intro ws hs
        simp only [Nat.zero_add, Nat.add_zero, Nat.reduceAdd, Int.reduceToNat, Nat.reduceMul, List.set_cons_zero, List.set_cons_succ, List.setIfInBounds_toArray] at hs
        refine Z.l rfl rfl (by rfl) (Z.keepS hs) (Z.Yd.fieldA (m := 7) rfl (by kernel_rfl)) ?_
        refine Z.le rfl trivial ?_
        first | refine Z.ZO.store rfl rfl hs Try.sizeOf3 rfl rfl rfl (by first | exact SX.at0 | exact SX.at1 | exact SX.at2 | exact SX.at3 | exact SX.at4 | exact SX.at5 | exact Z.at6 | exact Z.at7 | exact Z.at8 | exact Z.at9 | exact Z.at10 | exact Z.at11 | exact Z.at12) (by first | (simp; done) | (simp; omega)) ?_ | refine Z.ZO.storeR rfl rfl hs Try.sizeOf3 rfl rfl rfl (by first | exact SX.at0 | exact SX.at1 | exact SX.at2 | exact SX.at3 | exact SX.at4 | exact SX.at5 | exact Z.at6 | exact Z.at7 | exact Z.at8 | exact Z.at9 | exact Z.at10 | exact Z.at11 | exact Z.at12) (by first | omega | (simp [ints_length]; done) | (simp [ints_length]; omega)) ?_
        clear hs; intro ws hs
        simp only [Nat.zero_add, Nat.add_zero, Nat.reduceAdd, Int.reduceToNat, Nat.reduceMul, List.set_cons_zero, List.set_cons_succ, List.setIfInBounds_toArray] at hs
        refine Z.lnil ?_
        refine Z.only [1, 2] rfl ?_
        refine Z.nthen ?_
        refine Z.seq ?_
        refine Z.region ?_
        refine Z.l rfl rfl (by rfl) (Z.keepS hs) (by first | exact Z.Yd.loadA _ rfl Try.isAgg51 (fun _ => Z.cellsB (by first | ((repeat (first | exact List.mem_cons_self | refine List.mem_cons_of_mem _ ?_ | refine List.mem_append_right _ ?_)); done) | fail)) (by exact Try.sizeOf51) | fail "load 3.0") ?_
        refine Z.le rfl trivial ?_
        first | refine Z.ZO.storeA rfl rfl hs rfl rfl (by kernel_rfl) (by first | (simp [Value.oneCell']; done) | (refine Z.all_one ?_; assumption)) (by first | exact SX.at0 | exact SX.at1 | exact SX.at2 | exact SX.at3 | exact SX.at4 | exact SX.at5 | exact Z.at6 | exact Z.at7 | exact Z.at8 | exact Z.at9 | exact Z.at10 | exact Z.at11 | exact Z.at12) (by rfl) ?_ | refine Z.ZO.storeP rfl rfl hs rfl rfl (by kernel_rfl) (by first | (simp [Value.oneCell']; done) | (refine Z.all_one ?_; assumption)) (by first | exact SX.at0 | exact SX.at1 | exact SX.at2 | exact SX.at3 | exact SX.at4 | exact SX.at5 | exact Z.at6 | exact Z.at7 | exact Z.at8 | exact Z.at9 | exact Z.at10 | exact Z.at11 | exact Z.at12) (by first | decide | (simp; done) | (simp; omega)) ?_ | refine Z.ZO.storePR rfl rfl hs rfl rfl (by kernel_rfl) (by first | (simp [Value.oneCell']; done) | (refine Z.all_one ?_; assumption)) (by first | exact SX.at0 | exact SX.at1 | exact SX.at2 | exact SX.at3 | exact SX.at4 | exact SX.at5 | exact Z.at6 | exact Z.at7 | exact Z.at8 | exact Z.at9 | exact Z.at10 | exact Z.at11 | exact Z.at12) (by first | decide | (simp; done) | (simp; omega)) ?_
        clear hs; intro ws hs
        simp only [Nat.zero_add, Nat.add_zero, Nat.reduceAdd, Int.reduceToNat, Nat.reduceMul, List.set_cons_zero, List.set_cons_succ, List.setIfInBounds_toArray] at hs
        try simp only [Z.putL, Nat.zero_add] at hs
        refine Z.lnil ?_
        refine Z.only [2] rfl ?_
        refine Z.nthen ?_
        refine Z.ret ?_
        repeat (first | refine Z.rthen ?_ | refine Z.rblock ?_ | refine Z.rscope ?_)
        -- ret#0
        refine Z.out1 (by exact ⟨⟨_, rfl, Z.rvcA hs Try.isAgg51 (by first | ((repeat (first | exact List.mem_cons_self | refine List.mem_cons_of_mem _ ?_ | refine List.mem_append_right _ ?_)); done) | fail) (by exact Try.sizeOf51)⟩, trivial⟩) ?_
        exact ⟨_, rfl, rfl, hs.sub (List.nil_sublist _)⟩
        )
  · first
      | (exfalso; simp at hc1 <;> omega)
      | (
        (try simp at hc1)
        have e : failV m = { m with st := 1, due := m.now + acB m.id m.att m.bnd } := if_neg (by omega)
        rw [e]
        refine Z.skip ?_
        refine Z.nthen ?_
        refine Z.seq ?_
        refine Z.drawS (fun W => ∃ x y : Value, SX.Keep w [] [SX.Ent.blk g2 51 #[.int .u64 0, .int .i64 0, .int .i64 0, .int .i64 0, .int .i64 0, .int .i64 0, .int .i64 0, .int .i64 0, .int .i64 0, .int .i64 0, .int .i64 0, .int .i64 0, .int .i64 0], SX.Ent.blk g1 51 #[.int .u64 m.id, .int .i64 m.rnt, .int .i64 m.win, .int .i64 m.con, .int .i64 m.max, x, .int .i64 m.now, y, .int .i64 m.frm, .int .i64 m.pre, .int .i64 m.att, .int .i64 m.bnd, .int .i64 m.rn]] W) (fun j => j != 14) mixed hs ?_
        clear hs; intro wd4 hs
        refine Z.t 0 rfl rfl rfl (by rfl) (by kernel_rfl) ⟨_, _, _, hs, by first | exact fun e he => he | (simp; done)⟩ (Z.Yd.fieldA (m := 6) rfl (by kernel_rfl)) ?_
        refine Z.t 1 rfl rfl rfl (by rfl) (by kernel_rfl) ⟨_, _, _, hs, by first | exact fun e he => he | (simp; done)⟩ (by exact Z.Yd.load rfl Try.isAgg3 (fun _ W hS => by obtain ⟨x, y, hK⟩ := hS; exact Z.cellB (by first | ((repeat (first | exact List.mem_cons_self | refine List.mem_cons_of_mem _ ?_ | refine List.mem_append_right _ ?_)); done) | fail) rfl W hK)) ?_
        refine Z.t 2 rfl rfl rfl (by rfl) (by kernel_rfl) ⟨_, _, _, hs, by first | exact fun e he => he | (simp; done)⟩ (Z.Yd.fieldA (m := 0) rfl (by kernel_rfl)) ?_
        refine Z.t 3 rfl rfl rfl (by rfl) (by kernel_rfl) ⟨_, _, _, hs, by first | exact fun e he => he | (simp; done)⟩ (Z.Yd.fieldA (m := 0) rfl (by kernel_rfl)) ?_
        refine Z.t 4 rfl rfl rfl (by rfl) (by kernel_rfl) ⟨_, _, _, hs, by first | exact fun e he => he | (simp; done)⟩ (by exact Z.Yd.load rfl Try.isAgg22 (fun _ W hS => by obtain ⟨x, y, hK⟩ := hS; exact Z.cellB (by first | ((repeat (first | exact List.mem_cons_self | refine List.mem_cons_of_mem _ ?_ | refine List.mem_append_right _ ?_)); done) | fail) rfl W hK)) ?_
        refine Z.t 5 rfl rfl rfl (by rfl) (by kernel_rfl) ⟨_, _, _, hs, by first | exact fun e he => he | (simp; done)⟩ (Z.Yd.fieldA (m := 10) rfl (by kernel_rfl)) ?_
        refine Z.t 6 rfl rfl rfl (by rfl) (by kernel_rfl) ⟨_, _, _, hs, by first | exact fun e he => he | (simp; done)⟩ (by exact Z.Yd.load rfl Try.isAgg3 (fun _ W hS => by obtain ⟨x, y, hK⟩ := hS; exact Z.cellB (by first | ((repeat (first | exact List.mem_cons_self | refine List.mem_cons_of_mem _ ?_ | refine List.mem_append_right _ ?_)); done) | fail) rfl W hK)) ?_
        refine Z.t 7 rfl rfl rfl (by rfl) (by kernel_rfl) ⟨_, _, _, hs, by first | exact fun e he => he | (simp; done)⟩ (Z.Yd.fieldA (m := 11) rfl (by kernel_rfl)) ?_
        refine Z.t 8 rfl rfl rfl (by rfl) (by kernel_rfl) ⟨_, _, _, hs, by first | exact fun e he => he | (simp; done)⟩ (by exact Z.Yd.load rfl Try.isAgg3 (fun _ W hS => by obtain ⟨x, y, hK⟩ := hS; exact Z.cellB (by first | ((repeat (first | exact List.mem_cons_self | refine List.mem_cons_of_mem _ ?_ | refine List.mem_append_right _ ?_)); done) | fail) rfl W hK)) ?_
        refine Z.t 11 rfl rfl rfl (by rfl) (by kernel_rfl) ⟨_, _, _, hs, by first | exact fun e he => he | (simp; done)⟩ (Z.Yd.fieldA (m := 5) rfl (by kernel_rfl)) ?_
        refine Z.tn 9 rfl rfl (by kernel_rfl) rfl trivial ?_
        refine Z.ZO.call rfl rfl (by rfl) rfl rfl Try.call67 rfl (acr_backoff m.id m.att m.bnd _ (by omega)) ?_
        rintro v4_9 w4_9 ⟨rfl, hy⟩
        replace hs := hs.call hy
        clear hy
        try simp only [List.cons_append, List.nil_append, List.append_nil] at hs
        refine Z.tk (Dn := fun j => j != 14) (i := 9) (fun _ => ⟨_, _, _, hs, by first | exact fun e he => he | (simp; done)⟩) ?_
        refine Z.t 10 rfl rfl rfl (by rfl) (by kernel_rfl) ⟨_, _, _, hs, by first | exact fun e he => he | (simp; done)⟩ (Z.Yd.add rfl rfl (fun hG => Z.wi64 (by first | omega | (have hG' := Z.gh rfl hG; simp at hG'; omega)))) ?_
        refine Z.tn 12 rfl rfl (by kernel_rfl) rfl trivial ?_
        first | refine Z.ZO.store rfl rfl hs Try.sizeOf44 rfl rfl rfl (by first | exact SX.at0 | exact SX.at1 | exact SX.at2 | exact SX.at3 | exact SX.at4 | exact SX.at5 | exact Z.at6 | exact Z.at7 | exact Z.at8 | exact Z.at9 | exact Z.at10 | exact Z.at11 | exact Z.at12) (by first | (simp; done) | (simp; omega)) ?_ | refine Z.ZO.storeR rfl rfl hs Try.sizeOf44 rfl rfl rfl (by first | exact SX.at0 | exact SX.at1 | exact SX.at2 | exact SX.at3 | exact SX.at4 | exact SX.at5 | exact Z.at6 | exact Z.at7 | exact Z.at8 | exact Z.at9 | exact Z.at10 | exact Z.at11 | exact Z.at12) (by first | omega | (simp [ints_length]; done) | (simp [ints_length]; omega)) ?_
        clear hs; intro ws hs
        simp only [Nat.zero_add, Nat.add_zero, Nat.reduceAdd, Int.reduceToNat, Nat.reduceMul, List.set_cons_zero, List.set_cons_succ, List.setIfInBounds_toArray] at hs
        refine Z.tk (Dn := fun j => j != 14) (i := 12) (fun _ => ⟨_, _, _, hs, by first | exact fun e he => he | (simp; done)⟩) ?_
        refine Z.t 13 rfl rfl rfl (by rfl) (by kernel_rfl) ⟨_, _, _, hs, by first | exact fun e he => he | (simp; done)⟩ (Z.Yd.fieldA (m := 7) rfl (by kernel_rfl)) ?_
        refine Z.tn 14 rfl rfl (by kernel_rfl) rfl trivial ?_
        first | refine Z.ZO.store rfl rfl hs Try.sizeOf3 rfl rfl rfl (by first | exact SX.at0 | exact SX.at1 | exact SX.at2 | exact SX.at3 | exact SX.at4 | exact SX.at5 | exact Z.at6 | exact Z.at7 | exact Z.at8 | exact Z.at9 | exact Z.at10 | exact Z.at11 | exact Z.at12) (by first | (simp; done) | (simp; omega)) ?_ | refine Z.ZO.storeR rfl rfl hs Try.sizeOf3 rfl rfl rfl (by first | exact SX.at0 | exact SX.at1 | exact SX.at2 | exact SX.at3 | exact SX.at4 | exact SX.at5 | exact Z.at6 | exact Z.at7 | exact Z.at8 | exact Z.at9 | exact Z.at10 | exact Z.at11 | exact Z.at12) (by first | omega | (simp [ints_length]; done) | (simp [ints_length]; omega)) ?_
        clear hs; intro ws hs
        simp only [Nat.zero_add, Nat.add_zero, Nat.reduceAdd, Int.reduceToNat, Nat.reduceMul, List.set_cons_zero, List.set_cons_succ, List.setIfInBounds_toArray] at hs
        refine Z.tk (Dn := fun j => j != 14) (i := 14) (fun h => absurd h (by decide)) ?_
        refine Z.td (by rfl) (by kernel_rfl) ?_
        refine Z.only [1, 2] rfl ?_
        refine Z.nthen ?_
        refine Z.seq ?_
        refine Z.region ?_
        refine Z.l rfl rfl (by rfl) (Z.keepS hs) (by first | exact Z.Yd.loadA _ rfl Try.isAgg51 (fun _ => Z.cellsB (by first | ((repeat (first | exact List.mem_cons_self | refine List.mem_cons_of_mem _ ?_ | refine List.mem_append_right _ ?_)); done) | fail)) (by exact Try.sizeOf51) | fail "load 5.0") ?_
        refine Z.le rfl trivial ?_
        first | refine Z.ZO.storeA rfl rfl hs rfl rfl (by kernel_rfl) (by first | (simp [Value.oneCell']; done) | (refine Z.all_one ?_; assumption)) (by first | exact SX.at0 | exact SX.at1 | exact SX.at2 | exact SX.at3 | exact SX.at4 | exact SX.at5 | exact Z.at6 | exact Z.at7 | exact Z.at8 | exact Z.at9 | exact Z.at10 | exact Z.at11 | exact Z.at12) (by rfl) ?_ | refine Z.ZO.storeP rfl rfl hs rfl rfl (by kernel_rfl) (by first | (simp [Value.oneCell']; done) | (refine Z.all_one ?_; assumption)) (by first | exact SX.at0 | exact SX.at1 | exact SX.at2 | exact SX.at3 | exact SX.at4 | exact SX.at5 | exact Z.at6 | exact Z.at7 | exact Z.at8 | exact Z.at9 | exact Z.at10 | exact Z.at11 | exact Z.at12) (by first | decide | (simp; done) | (simp; omega)) ?_ | refine Z.ZO.storePR rfl rfl hs rfl rfl (by kernel_rfl) (by first | (simp [Value.oneCell']; done) | (refine Z.all_one ?_; assumption)) (by first | exact SX.at0 | exact SX.at1 | exact SX.at2 | exact SX.at3 | exact SX.at4 | exact SX.at5 | exact Z.at6 | exact Z.at7 | exact Z.at8 | exact Z.at9 | exact Z.at10 | exact Z.at11 | exact Z.at12) (by first | decide | (simp; done) | (simp; omega)) ?_
        clear hs; intro ws hs
        simp only [Nat.zero_add, Nat.add_zero, Nat.reduceAdd, Int.reduceToNat, Nat.reduceMul, List.set_cons_zero, List.set_cons_succ, List.setIfInBounds_toArray] at hs
        try simp only [Z.putL, Nat.zero_add] at hs
        refine Z.lnil ?_
        refine Z.only [2] rfl ?_
        refine Z.nthen ?_
        refine Z.ret ?_
        -- ret#1
        refine Z.out1 (by exact ⟨⟨_, rfl, Z.rvcA hs Try.isAgg51 (by first | ((repeat (first | exact List.mem_cons_self | refine List.mem_cons_of_mem _ ?_ | refine List.mem_append_right _ ?_)); done) | fail) (by exact Try.sizeOf51)⟩, trivial⟩) ?_
        exact ⟨_, rfl, rfl, hs.sub (List.nil_sublist _)⟩
        )
def tickR (m : AcV) (t : Int) : AcV := if okT t then tickV m t else m
def tickE (t : Int) : Int := if okT t then 0 else 2
theorem acr_tick (m : AcV) (t : Int) (w : World) (hm : m.ok) :
    Calls Try.prog 47 #[.agg m.cells.toArray, .int .i64 t] w (SX.Ret fun v w' => v = .tuple #[.agg (tickR m t).cells.toArray, .int .i64 (tickE t)] ∧ SX.St w [] w' []) := by
  have hs := SX.St.start w
  show Calls Try.prog 47 #[.agg #[.int .u64 (m).id, .int .i64 (m).rnt, .int .i64 (m).win, .int .i64 (m).con, .int .i64 (m).max, .int .i64 (m).st, .int .i64 (m).now, .int .i64 (m).due, .int .i64 (m).frm, .int .i64 (m).pre, .int .i64 (m).att, .int .i64 (m).bnd, .int .i64 (m).rn], .int .i64 t] w _
  have hms := hm.time (t := t)
  have hone := ac_one (failV { m with now := Max.max m.now t })
  by_cases ht : okT t
  · have e1 : tickR m t = tickV m t := if_pos ht
    have e2 : tickE t = 0 := if_pos ht
    rw [e1, e2]
    have ht2 := ht
    unfold okT at ht2
    refine Z.enter Try.func47 rfl Try.ntmps47 rfl rfl ?_
    refine Z.seq ?_
    refine Z.region ?_
    refine Z.le rfl trivial ?_
    refine Z.ZO.box rfl rfl (by rfl) rfl rfl hs ?_
    clear hs; intro g2 w2 hs
    refine Z.le rfl trivial ?_
    refine Z.ZO.alloc rfl rfl (by rfl) Try.zeroValue51 rfl hs ?_
    clear hs; intro g4 w4 hs
    refine Z.lb 1 rfl ?_
    refine Z.lnil ?_
    refine Z.only [1, 2, 4] rfl ?_
    refine Z.nthen ?_
    refine Z.seq ?_
    refine Z.seq ?_
    refine Z.region ?_
    refine Z.lb 6 rfl ?_
    refine Z.lnil ?_
    refine Z.only [1, 2, 4, 12] rfl ?_
    refine Z.nthen ?_
    refine Z.cond rfl (fun h => absurd h (by simp; omega)) (fun hc1 => ?_)
    refine Z.skip ?_
    refine Z.nthen ?_
    refine Z.seq ?_
    refine Z.region ?_
    refine Z.l rfl rfl (by rfl) (Z.keepS hs) (Z.Yd.fieldA (m := 6) rfl (by kernel_rfl)) ?_
    refine Z.l rfl rfl (by rfl) (Z.keepS hs) (by first | exact Z.Yd.load rfl Try.isAgg3 (fun _ => Z.cellB (by first | ((repeat (first | exact List.mem_cons_self | refine List.mem_cons_of_mem _ ?_ | refine List.mem_append_right _ ?_)); done) | fail) rfl) | exact Z.Yd.load rfl Try.isAgg3 (fun _ => Z.cellO (by assumption) (by simp) (by assumption)) | fail "load 3.1") ?_
    refine Z.lb 1 rfl ?_
    refine Z.l rfl rfl (by rfl) (Z.keepS hs) (Z.Yd.max rfl rfl) ?_
    refine Z.l rfl rfl (by rfl) (Z.keepS hs) (Z.Yd.fieldA (m := 6) rfl (by kernel_rfl)) ?_
    refine Z.le rfl trivial ?_
    first | refine Z.ZO.store rfl rfl hs Try.sizeOf3 rfl rfl rfl (by first | exact SX.at0 | exact SX.at1 | exact SX.at2 | exact SX.at3 | exact SX.at4 | exact SX.at5 | exact Z.at6 | exact Z.at7 | exact Z.at8 | exact Z.at9 | exact Z.at10 | exact Z.at11 | exact Z.at12) (by first | (simp; done) | (simp; omega)) ?_ | refine Z.ZO.storeR rfl rfl hs Try.sizeOf3 rfl rfl rfl (by first | exact SX.at0 | exact SX.at1 | exact SX.at2 | exact SX.at3 | exact SX.at4 | exact SX.at5 | exact Z.at6 | exact Z.at7 | exact Z.at8 | exact Z.at9 | exact Z.at10 | exact Z.at11 | exact Z.at12) (by first | omega | (simp [ints_length]; done) | (simp [ints_length]; omega)) ?_
    clear hs; intro ws hs
    simp only [Nat.zero_add, Nat.add_zero, Nat.reduceAdd, Int.reduceToNat, Nat.reduceMul, List.set_cons_zero, List.set_cons_succ, List.setIfInBounds_toArray] at hs
    refine Z.lnil ?_
    refine Z.only [2, 4] rfl ?_
    refine Z.nthen ?_
    refine Z.seq ?_
    refine Z.region ?_
    refine Z.l rfl rfl (by rfl) (Z.keepS hs) (Z.Yd.fieldA (m := 5) rfl (by kernel_rfl)) ?_
    refine Z.l rfl rfl (by rfl) (Z.keepS hs) (by first | exact Z.Yd.load rfl Try.isAgg44 (fun _ => Z.cellB (by first | ((repeat (first | exact List.mem_cons_self | refine List.mem_cons_of_mem _ ?_ | refine List.mem_append_right _ ?_)); done) | fail) rfl) | exact Z.Yd.load rfl Try.isAgg44 (fun _ => Z.cellO (by assumption) (by simp) (by assumption)) | fail "load 4.1") ?_
    refine Z.lb 2 rfl ?_
    refine Z.l rfl rfl (by rfl) (Z.keepS hs) (Z.Yd.fieldA (m := 5) rfl (by kernel_rfl)) ?_
    refine Z.l rfl rfl (by rfl) (Z.keepS hs) (by first | exact Z.Yd.load rfl Try.isAgg44 (fun _ => Z.cellB (by first | ((repeat (first | exact List.mem_cons_self | refine List.mem_cons_of_mem _ ?_ | refine List.mem_append_right _ ?_)); done) | fail) rfl) | exact Z.Yd.load rfl Try.isAgg44 (fun _ => Z.cellO (by assumption) (by simp) (by assumption)) | fail "load 4.5") ?_
    refine Z.lb 3 rfl ?_
    refine Z.lnil ?_
    refine Z.only [2, 4, 6] rfl ?_
    refine Z.nthen ?_
    refine Z.seq ?_
    refine Z.seq ?_
    refine Z.region ?_
    refine Z.lb 2 rfl ?_
    refine Z.l rfl rfl (by rfl) (Z.keepS hs) (Z.Yd.fieldA (m := 6) rfl (by kernel_rfl)) ?_
    refine Z.l rfl rfl (by rfl) (Z.keepS hs) (by first | exact Z.Yd.load rfl Try.isAgg3 (fun _ => Z.cellB (by first | ((repeat (first | exact List.mem_cons_self | refine List.mem_cons_of_mem _ ?_ | refine List.mem_append_right _ ?_)); done) | fail) rfl) | exact Z.Yd.load rfl Try.isAgg3 (fun _ => Z.cellO (by assumption) (by simp) (by assumption)) | fail "load 5.3") ?_
    refine Z.l rfl rfl (by rfl) (Z.keepS hs) (Z.Yd.fieldA (m := 7) rfl (by kernel_rfl)) ?_
    refine Z.l rfl rfl (by rfl) (Z.keepS hs) (by first | exact Z.Yd.load rfl Try.isAgg3 (fun _ => Z.cellB (by first | ((repeat (first | exact List.mem_cons_self | refine List.mem_cons_of_mem _ ?_ | refine List.mem_append_right _ ?_)); done) | fail) rfl) | exact Z.Yd.load rfl Try.isAgg3 (fun _ => Z.cellO (by assumption) (by simp) (by assumption)) | fail "load 5.5") ?_
    refine Z.lb 2 rfl ?_
    refine Z.lnil ?_
    refine Z.only [2, 4, 34] rfl ?_
    refine Z.nthen ?_
    refine Z.cond rfl (fun hc5 => ?_) (fun hc5 => ?_)
    · first
        | (exfalso; simp at hc5 <;> omega)
        | (
          (try simp at hc5)
          have eT : tickV m t = failV { m with now := Max.max m.now t } := if_pos (show waits m t by unfold waits; omega)
          rw [eT]
          refine Z.region ?_
          refine Z.l rfl rfl (by rfl) (Z.keepS hs) (by first | exact Z.Yd.loadA _ rfl Try.isAgg51 (fun _ => Z.cellsB (by first | ((repeat (first | exact List.mem_cons_self | refine List.mem_cons_of_mem _ ?_ | refine List.mem_append_right _ ?_)); done) | fail)) (by exact Try.sizeOf51) | fail "load 6.0") ?_
          refine Z.le rfl trivial ?_
          refine Z.ZO.call rfl rfl (by rfl) rfl rfl Try.call58 rfl (acr_fail { m with now := Max.max m.now t } _ (hms ht)) ?_
          rintro v6_1 w6_1 ⟨rfl, hy⟩
          replace hs := hs.call hy
          clear hy
          try simp only [List.cons_append, List.nil_append, List.append_nil] at hs
          refine Z.le rfl trivial ?_
          first | refine Z.ZO.storeA rfl rfl hs rfl rfl (by kernel_rfl) (by first | (simp [Value.oneCell']; done) | (refine Z.all_one ?_; assumption)) (by first | exact SX.at0 | exact SX.at1 | exact SX.at2 | exact SX.at3 | exact SX.at4 | exact SX.at5 | exact Z.at6 | exact Z.at7 | exact Z.at8 | exact Z.at9 | exact Z.at10 | exact Z.at11 | exact Z.at12) (by rfl) ?_ | refine Z.ZO.storeP rfl rfl hs rfl rfl (by kernel_rfl) (by first | (simp [Value.oneCell']; done) | (refine Z.all_one ?_; assumption)) (by first | exact SX.at0 | exact SX.at1 | exact SX.at2 | exact SX.at3 | exact SX.at4 | exact SX.at5 | exact Z.at6 | exact Z.at7 | exact Z.at8 | exact Z.at9 | exact Z.at10 | exact Z.at11 | exact Z.at12) (by first | decide | (simp; done) | (simp; omega)) ?_ | refine Z.ZO.storePR rfl rfl hs rfl rfl (by kernel_rfl) (by first | (simp [Value.oneCell']; done) | (refine Z.all_one ?_; assumption)) (by first | exact SX.at0 | exact SX.at1 | exact SX.at2 | exact SX.at3 | exact SX.at4 | exact SX.at5 | exact Z.at6 | exact Z.at7 | exact Z.at8 | exact Z.at9 | exact Z.at10 | exact Z.at11 | exact Z.at12) (by first | decide | (simp; done) | (simp; omega)) ?_
          clear hs; intro ws hs
          simp only [Nat.zero_add, Nat.add_zero, Nat.reduceAdd, Int.reduceToNat, Nat.reduceMul, List.set_cons_zero, List.set_cons_succ, List.setIfInBounds_toArray] at hs
          try simp only [Z.putL, Nat.zero_add] at hs
          refine Z.lnil ?_
          refine Z.only [2, 4] rfl ?_
          refine Z.nthen ?_
          refine Z.seq ?_
          refine Z.region ?_
          refine Z.l rfl rfl (by rfl) (Z.keepS hs) (by first | exact Z.Yd.loadA _ rfl Try.isAgg51 (fun _ => Z.cellsB (by first | ((repeat (first | exact List.mem_cons_self | refine List.mem_cons_of_mem _ ?_ | refine List.mem_append_right _ ?_)); done) | fail)) (by exact Try.sizeOf51) | fail "load 7.0") ?_
          refine Z.le rfl trivial ?_
          first | refine Z.ZO.storeA rfl rfl hs rfl rfl (by kernel_rfl) (by first | (simp [Value.oneCell']; done) | (refine Z.all_one ?_; assumption)) (by first | exact SX.at0 | exact SX.at1 | exact SX.at2 | exact SX.at3 | exact SX.at4 | exact SX.at5 | exact Z.at6 | exact Z.at7 | exact Z.at8 | exact Z.at9 | exact Z.at10 | exact Z.at11 | exact Z.at12) (by rfl) ?_ | refine Z.ZO.storeP rfl rfl hs rfl rfl (by kernel_rfl) (by first | (simp [Value.oneCell']; done) | (refine Z.all_one ?_; assumption)) (by first | exact SX.at0 | exact SX.at1 | exact SX.at2 | exact SX.at3 | exact SX.at4 | exact SX.at5 | exact Z.at6 | exact Z.at7 | exact Z.at8 | exact Z.at9 | exact Z.at10 | exact Z.at11 | exact Z.at12) (by first | decide | (simp; done) | (simp; omega)) ?_ | refine Z.ZO.storePR rfl rfl hs rfl rfl (by kernel_rfl) (by first | (simp [Value.oneCell']; done) | (refine Z.all_one ?_; assumption)) (by first | exact SX.at0 | exact SX.at1 | exact SX.at2 | exact SX.at3 | exact SX.at4 | exact SX.at5 | exact Z.at6 | exact Z.at7 | exact Z.at8 | exact Z.at9 | exact Z.at10 | exact Z.at11 | exact Z.at12) (by first | decide | (simp; done) | (simp; omega)) ?_
          clear hs; intro ws hs
          simp only [Nat.zero_add, Nat.add_zero, Nat.reduceAdd, Int.reduceToNat, Nat.reduceMul, List.set_cons_zero, List.set_cons_succ, List.setIfInBounds_toArray] at hs
          try simp only [Z.putL, Nat.zero_add] at hs
          refine Z.lb 1 rfl ?_
          refine Z.lnil ?_
          refine Z.only [4, 5] rfl ?_
          refine Z.nthen ?_
          refine Z.ret ?_
          -- ret#0
          refine Z.out2 (by exact ⟨⟨_, rfl, Z.rvcA hs Try.isAgg51 (by first | ((repeat (first | exact List.mem_cons_self | refine List.mem_cons_of_mem _ ?_ | refine List.mem_append_right _ ?_)); done) | fail) (by exact Try.sizeOf51)⟩, rfl, trivial⟩) ?_
          exact ⟨_, rfl, rfl, hs.sub (List.nil_sublist _)⟩
          )
    · first
        | (exfalso; simp at hc5 <;> omega)
        | (
          (try simp at hc5)
          have eT : tickV m t = { m with now := Max.max m.now t } := if_neg (show ¬ waits m t by unfold waits; intro h; have := hc5 h.1; omega)
          rw [eT]
          refine Z.skip ?_
          refine Z.nthen ?_
          refine Z.seq ?_
          refine Z.region ?_
          refine Z.l rfl rfl (by rfl) (Z.keepS hs) (by first | exact Z.Yd.loadA _ rfl Try.isAgg51 (fun _ => Z.cellsB (by first | ((repeat (first | exact List.mem_cons_self | refine List.mem_cons_of_mem _ ?_ | refine List.mem_append_right _ ?_)); done) | fail)) (by exact Try.sizeOf51) | fail "load 7.0") ?_
          refine Z.le rfl trivial ?_
          first | refine Z.ZO.storeA rfl rfl hs rfl rfl (by kernel_rfl) (by first | (simp [Value.oneCell']; done) | (refine Z.all_one ?_; assumption)) (by first | exact SX.at0 | exact SX.at1 | exact SX.at2 | exact SX.at3 | exact SX.at4 | exact SX.at5 | exact Z.at6 | exact Z.at7 | exact Z.at8 | exact Z.at9 | exact Z.at10 | exact Z.at11 | exact Z.at12) (by rfl) ?_ | refine Z.ZO.storeP rfl rfl hs rfl rfl (by kernel_rfl) (by first | (simp [Value.oneCell']; done) | (refine Z.all_one ?_; assumption)) (by first | exact SX.at0 | exact SX.at1 | exact SX.at2 | exact SX.at3 | exact SX.at4 | exact SX.at5 | exact Z.at6 | exact Z.at7 | exact Z.at8 | exact Z.at9 | exact Z.at10 | exact Z.at11 | exact Z.at12) (by first | decide | (simp; done) | (simp; omega)) ?_ | refine Z.ZO.storePR rfl rfl hs rfl rfl (by kernel_rfl) (by first | (simp [Value.oneCell']; done) | (refine Z.all_one ?_; assumption)) (by first | exact SX.at0 | exact SX.at1 | exact SX.at2 | exact SX.at3 | exact SX.at4 | exact SX.at5 | exact Z.at6 | exact Z.at7 | exact Z.at8 | exact Z.at9 | exact Z.at10 | exact Z.at11 | exact Z.at12) (by first | decide | (simp; done) | (simp; omega)) ?_
          clear hs; intro ws hs
          simp only [Nat.zero_add, Nat.add_zero, Nat.reduceAdd, Int.reduceToNat, Nat.reduceMul, List.set_cons_zero, List.set_cons_succ, List.setIfInBounds_toArray] at hs
          try simp only [Z.putL, Nat.zero_add] at hs
          refine Z.lb 1 rfl ?_
          refine Z.lnil ?_
          refine Z.only [4, 5] rfl ?_
          refine Z.nthen ?_
          refine Z.ret ?_
          -- ret#1
          refine Z.out2 (by exact ⟨⟨_, rfl, Z.rvcA hs Try.isAgg51 (by first | ((repeat (first | exact List.mem_cons_self | refine List.mem_cons_of_mem _ ?_ | refine List.mem_append_right _ ?_)); done) | fail) (by exact Try.sizeOf51)⟩, rfl, trivial⟩) ?_
          exact ⟨_, rfl, rfl, hs.sub (List.nil_sublist _)⟩
          )
  · have e1 : tickR m t = m := if_neg ht
    have e2 : tickE t = 2 := if_neg ht
    rw [e1, e2]
    unfold okT at ht
    refine Z.enter Try.func47 rfl Try.ntmps47 rfl rfl ?_
    refine Z.seq ?_
    refine Z.region ?_
    refine Z.le rfl trivial ?_
    refine Z.ZO.box rfl rfl (by rfl) rfl rfl hs ?_
    clear hs; intro g2 w2 hs
    refine Z.le rfl trivial ?_
    refine Z.ZO.alloc rfl rfl (by rfl) Try.zeroValue51 rfl hs ?_
    clear hs; intro g4 w4 hs
    refine Z.lb 1 rfl ?_
    refine Z.lnil ?_
    refine Z.only [1, 2, 4] rfl ?_
    refine Z.nthen ?_
    refine Z.seq ?_
    refine Z.seq ?_
    refine Z.region ?_
    refine Z.lb 6 rfl ?_
    refine Z.lnil ?_
    refine Z.only [1, 2, 4, 12] rfl ?_
    refine Z.nthen ?_
    refine Z.cond rfl (fun hc1 => ?_) (fun h => absurd h (by simp; omega))
    refine Z.seq ?_
    refine Z.region ?_
    refine Z.l rfl rfl (by rfl) (Z.keepS hs) (by first | exact Z.Yd.loadA _ rfl Try.isAgg51 (fun _ => Z.cellsB (by first | ((repeat (first | exact List.mem_cons_self | refine List.mem_cons_of_mem _ ?_ | refine List.mem_append_right _ ?_)); done) | fail)) (by exact Try.sizeOf51) | fail "load 2.0") ?_
    refine Z.le rfl trivial ?_
    first | refine Z.ZO.storeA rfl rfl hs rfl rfl (by kernel_rfl) (by first | (simp [Value.oneCell']; done) | (refine Z.all_one ?_; assumption)) (by first | exact SX.at0 | exact SX.at1 | exact SX.at2 | exact SX.at3 | exact SX.at4 | exact SX.at5 | exact Z.at6 | exact Z.at7 | exact Z.at8 | exact Z.at9 | exact Z.at10 | exact Z.at11 | exact Z.at12) (by rfl) ?_ | refine Z.ZO.storeP rfl rfl hs rfl rfl (by kernel_rfl) (by first | (simp [Value.oneCell']; done) | (refine Z.all_one ?_; assumption)) (by first | exact SX.at0 | exact SX.at1 | exact SX.at2 | exact SX.at3 | exact SX.at4 | exact SX.at5 | exact Z.at6 | exact Z.at7 | exact Z.at8 | exact Z.at9 | exact Z.at10 | exact Z.at11 | exact Z.at12) (by first | decide | (simp; done) | (simp; omega)) ?_ | refine Z.ZO.storePR rfl rfl hs rfl rfl (by kernel_rfl) (by first | (simp [Value.oneCell']; done) | (refine Z.all_one ?_; assumption)) (by first | exact SX.at0 | exact SX.at1 | exact SX.at2 | exact SX.at3 | exact SX.at4 | exact SX.at5 | exact Z.at6 | exact Z.at7 | exact Z.at8 | exact Z.at9 | exact Z.at10 | exact Z.at11 | exact Z.at12) (by first | decide | (simp; done) | (simp; omega)) ?_
    clear hs; intro ws hs
    simp only [Nat.zero_add, Nat.add_zero, Nat.reduceAdd, Int.reduceToNat, Nat.reduceMul, List.set_cons_zero, List.set_cons_succ, List.setIfInBounds_toArray] at hs
    try simp only [Z.putL, Nat.zero_add] at hs
    refine Z.lb 1 rfl ?_
    refine Z.lnil ?_
    refine Z.only [4, 5] rfl ?_
    refine Z.nthen ?_
    refine Z.ret ?_
    repeat (first | refine Z.rthen ?_ | refine Z.rblock ?_ | refine Z.rscope ?_)
    -- ret#0
    refine Z.out2 (by exact ⟨⟨_, rfl, Z.rvcA hs Try.isAgg51 (by first | ((repeat (first | exact List.mem_cons_self | refine List.mem_cons_of_mem _ ?_ | refine List.mem_append_right _ ?_)); done) | fail) (by exact Try.sizeOf51)⟩, rfl, trivial⟩) ?_
    exact ⟨_, rfl, rfl, hs.sub (List.nil_sublist _)⟩
theorem acr_start (m : AcV) (t : Int) (w : World) (hm : m.ok) :
    Calls Try.prog 43 #[.agg m.cells.toArray, .int .i64 t] w (SX.Ret fun v w' => v = .tuple #[.agg (startV m t).1.cells.toArray, .int .i64 (startV m t).2] ∧ SX.St w [] w' []) := by
  have hs := SX.St.start w
  show Calls Try.prog 43 #[.agg #[.int .u64 (m).id, .int .i64 (m).rnt, .int .i64 (m).win, .int .i64 (m).con, .int .i64 (m).max, .int .i64 (m).st, .int .i64 (m).now, .int .i64 (m).due, .int .i64 (m).frm, .int .i64 (m).pre, .int .i64 (m).att, .int .i64 (m).bnd, .int .i64 (m).rn], .int .i64 t] w _
  have hone := ac_one (tickR m t)
  by_cases ht : okT t
  · have e1 : tickR m t = tickV m t := if_pos ht
    have e2 : tickE t = 0 := if_pos ht
    have e3 : startV m t = if (tickV m t).st = 0 ∨ (tickV m t).st = 4 ∨ (tickV m t).st = 5 then ({ tickV m t with st := 1, due := (tickV m t).now, att := 0, bnd := 0 }, 0) else (tickV m t, 8) := if_pos ht
    rw [e1] at hone
    rw [e3]
    obtain ⟨b, hb⟩ : ∃ b, b = tickV m t := ⟨_, rfl⟩
    rw [← hb] at hone e1 ⊢
    refine Z.enter Try.func43 rfl Try.ntmps43 rfl rfl ?_
    refine Z.seq ?_
    refine Z.region ?_
    refine Z.le rfl trivial ?_
    refine Z.ZO.box rfl rfl (by rfl) rfl rfl hs ?_
    clear hs; intro g2 w2 hs
    refine Z.le rfl trivial ?_
    refine Z.ZO.alloc rfl rfl (by rfl) Try.zeroValue51 rfl hs ?_
    clear hs; intro g4 w4 hs
    refine Z.lb 1 rfl ?_
    refine Z.lnil ?_
    refine Z.only [1, 2, 4] rfl ?_
    refine Z.nthen ?_
    refine Z.seq ?_
    refine Z.region ?_
    refine Z.l rfl rfl (by rfl) (Z.keepS hs) (by first | exact Z.Yd.loadA _ rfl Try.isAgg51 (fun _ => Z.cellsB (by first | ((repeat (first | exact List.mem_cons_self | refine List.mem_cons_of_mem _ ?_ | refine List.mem_append_right _ ?_)); done) | fail)) (by exact Try.sizeOf51) | fail "load 1.0") ?_
    refine Z.lb 1 rfl ?_
    refine Z.le rfl trivial ?_
    refine Z.ZO.call rfl rfl (by rfl) rfl rfl Try.call47 rfl (acr_tick m t _ hm) ?_
    rintro v1_2 w1_2 ⟨rfl, hy⟩
    replace hs := hs.call hy
    clear hy
    try simp only [List.cons_append, List.nil_append, List.append_nil] at hs
    rw [e1, e2]
    refine Z.lb 3 rfl ?_
    refine Z.le rfl trivial ?_
    refine Z.ZO.alloc rfl rfl (by rfl) Try.zeroValue51 rfl hs ?_
    clear hs; intro g6 w6 hs
    refine Z.le rfl trivial ?_
    first | refine Z.ZO.storeA rfl rfl hs rfl rfl (by kernel_rfl) (by first | (simp [Value.oneCell']; done) | (refine Z.all_one ?_; assumption)) (by first | exact SX.at0 | exact SX.at1 | exact SX.at2 | exact SX.at3 | exact SX.at4 | exact SX.at5 | exact Z.at6 | exact Z.at7 | exact Z.at8 | exact Z.at9 | exact Z.at10 | exact Z.at11 | exact Z.at12) (by rfl) ?_ | refine Z.ZO.storeP rfl rfl hs rfl rfl (by kernel_rfl) (by first | (simp [Value.oneCell']; done) | (refine Z.all_one ?_; assumption)) (by first | exact SX.at0 | exact SX.at1 | exact SX.at2 | exact SX.at3 | exact SX.at4 | exact SX.at5 | exact Z.at6 | exact Z.at7 | exact Z.at8 | exact Z.at9 | exact Z.at10 | exact Z.at11 | exact Z.at12) (by first | decide | (simp; done) | (simp; omega)) ?_ | refine Z.ZO.storePR rfl rfl hs rfl rfl (by kernel_rfl) (by first | (simp [Value.oneCell']; done) | (refine Z.all_one ?_; assumption)) (by first | exact SX.at0 | exact SX.at1 | exact SX.at2 | exact SX.at3 | exact SX.at4 | exact SX.at5 | exact Z.at6 | exact Z.at7 | exact Z.at8 | exact Z.at9 | exact Z.at10 | exact Z.at11 | exact Z.at12) (by first | decide | (simp; done) | (simp; omega)) ?_
    clear hs; intro ws hs
    simp only [Nat.zero_add, Nat.add_zero, Nat.reduceAdd, Int.reduceToNat, Nat.reduceMul, List.set_cons_zero, List.set_cons_succ, List.setIfInBounds_toArray] at hs
    try simp only [Z.putL, Nat.zero_add] at hs
    refine Z.lb 1 rfl ?_
    refine Z.lnil ?_
    refine Z.only [2, 4, 6, 7] rfl ?_
    refine Z.nthen ?_
    refine Z.seq ?_
    refine Z.seq ?_
    refine Z.region ?_
    replace hs : SX.St w [] _ [SX.Ent.blk g6 51 #[.int .u64 (b).id, .int .i64 (b).rnt, .int .i64 (b).win, .int .i64 (b).con, .int .i64 (b).max, .int .i64 (b).st, .int .i64 (b).now, .int .i64 (b).due, .int .i64 (b).frm, .int .i64 (b).pre, .int .i64 (b).att, .int .i64 (b).bnd, .int .i64 (b).rn], _, _] := hs
    refine Z.l rfl rfl (by rfl) (Z.keepS hs) (Z.Yd.pure rfl) ?_
    refine Z.lb 1 rfl ?_
    refine Z.lnil ?_
    refine Z.only [2, 4, 6, 7, 15] rfl ?_
    refine Z.nthen ?_
    refine Z.cond rfl (fun h => absurd h (by simp)) (fun hc2 => ?_)
    refine Z.skip ?_
    refine Z.nthen ?_
    refine Z.seq ?_
    refine Z.seq ?_
    refine Z.region ?_
    refine Z.l rfl rfl (by rfl) (Z.keepS hs) (Z.Yd.fieldA (m := 5) rfl (by kernel_rfl)) ?_
    refine Z.l rfl rfl (by rfl) (Z.keepS hs) (by first | exact Z.Yd.load rfl Try.isAgg44 (fun _ => Z.cellB (by first | ((repeat (first | exact List.mem_cons_self | refine List.mem_cons_of_mem _ ?_ | refine List.mem_append_right _ ?_)); done) | fail) rfl) | exact Z.Yd.load rfl Try.isAgg44 (fun _ => Z.cellO (by assumption) (by simp) (by assumption)) | fail "load 4.1") ?_
    refine Z.lb 2 rfl ?_
    refine Z.l rfl rfl (by rfl) (Z.keepS hs) (Z.Yd.fieldA (m := 5) rfl (by kernel_rfl)) ?_
    refine Z.l rfl rfl (by rfl) (Z.keepS hs) (by first | exact Z.Yd.load rfl Try.isAgg44 (fun _ => Z.cellB (by first | ((repeat (first | exact List.mem_cons_self | refine List.mem_cons_of_mem _ ?_ | refine List.mem_append_right _ ?_)); done) | fail) rfl) | exact Z.Yd.load rfl Try.isAgg44 (fun _ => Z.cellO (by assumption) (by simp) (by assumption)) | fail "load 4.5") ?_
    refine Z.lb 3 rfl ?_
    refine Z.l rfl rfl (by rfl) (Z.keepS hs) (Z.Yd.fieldA (m := 5) rfl (by kernel_rfl)) ?_
    refine Z.l rfl rfl (by rfl) (Z.keepS hs) (by first | exact Z.Yd.load rfl Try.isAgg44 (fun _ => Z.cellB (by first | ((repeat (first | exact List.mem_cons_self | refine List.mem_cons_of_mem _ ?_ | refine List.mem_append_right _ ?_)); done) | fail) rfl) | exact Z.Yd.load rfl Try.isAgg44 (fun _ => Z.cellO (by assumption) (by simp) (by assumption)) | fail "load 4.10") ?_
    refine Z.lb 2 rfl ?_
    refine Z.lnil ?_
    refine Z.only [4, 6, 30] rfl ?_
    refine Z.nthen ?_
    refine Z.cond rfl (fun hc4 => ?_) (fun hc4 => ?_)
    · first
        | (exfalso; simp at hc4 <;> omega)
        | (
          (try simp at hc4)
          rw [if_neg (by omega)]
          refine Z.seq ?_
          refine Z.region ?_
          refine Z.l rfl rfl (by rfl) (Z.keepS hs) (by first | exact Z.Yd.loadA _ rfl Try.isAgg51 (fun _ => Z.cellsB (by first | ((repeat (first | exact List.mem_cons_self | refine List.mem_cons_of_mem _ ?_ | refine List.mem_append_right _ ?_)); done) | fail)) (by exact Try.sizeOf51) | fail "load 5.0") ?_
          refine Z.le rfl trivial ?_
          first | refine Z.ZO.storeA rfl rfl hs rfl rfl (by kernel_rfl) (by first | (simp [Value.oneCell']; done) | (refine Z.all_one ?_; assumption)) (by first | exact SX.at0 | exact SX.at1 | exact SX.at2 | exact SX.at3 | exact SX.at4 | exact SX.at5 | exact Z.at6 | exact Z.at7 | exact Z.at8 | exact Z.at9 | exact Z.at10 | exact Z.at11 | exact Z.at12) (by rfl) ?_ | refine Z.ZO.storeP rfl rfl hs rfl rfl (by kernel_rfl) (by first | (simp [Value.oneCell']; done) | (refine Z.all_one ?_; assumption)) (by first | exact SX.at0 | exact SX.at1 | exact SX.at2 | exact SX.at3 | exact SX.at4 | exact SX.at5 | exact Z.at6 | exact Z.at7 | exact Z.at8 | exact Z.at9 | exact Z.at10 | exact Z.at11 | exact Z.at12) (by first | decide | (simp; done) | (simp; omega)) ?_ | refine Z.ZO.storePR rfl rfl hs rfl rfl (by kernel_rfl) (by first | (simp [Value.oneCell']; done) | (refine Z.all_one ?_; assumption)) (by first | exact SX.at0 | exact SX.at1 | exact SX.at2 | exact SX.at3 | exact SX.at4 | exact SX.at5 | exact Z.at6 | exact Z.at7 | exact Z.at8 | exact Z.at9 | exact Z.at10 | exact Z.at11 | exact Z.at12) (by first | decide | (simp; done) | (simp; omega)) ?_
          clear hs; intro ws hs
          simp only [Nat.zero_add, Nat.add_zero, Nat.reduceAdd, Int.reduceToNat, Nat.reduceMul, List.set_cons_zero, List.set_cons_succ, List.setIfInBounds_toArray] at hs
          try simp only [Z.putL, Nat.zero_add] at hs
          refine Z.lb 1 rfl ?_
          refine Z.lnil ?_
          refine Z.only [4, 5] rfl ?_
          refine Z.nthen ?_
          refine Z.ret ?_
          repeat (first | refine Z.rthen ?_ | refine Z.rblock ?_ | refine Z.rscope ?_)
          -- ret#0
          refine Z.out2 (by exact ⟨⟨_, rfl, Z.rvcA hs Try.isAgg51 (by first | ((repeat (first | exact List.mem_cons_self | refine List.mem_cons_of_mem _ ?_ | refine List.mem_append_right _ ?_)); done) | fail) (by exact Try.sizeOf51)⟩, rfl, trivial⟩) ?_
          exact ⟨_, rfl, rfl, hs.sub (List.nil_sublist _)⟩
          )
    · first
        | (exfalso; simp at hc4 <;> omega)
        | (
          (try simp at hc4)
          rw [if_pos (by omega)]
          refine Z.skip ?_
          refine Z.nthen ?_
          refine Z.seq ?_
          refine Z.region ?_
          refine Z.l rfl rfl (by rfl) (Z.keepS hs) (Z.Yd.fieldA (m := 6) rfl (by kernel_rfl)) ?_
          refine Z.l rfl rfl (by rfl) (Z.keepS hs) (by first | exact Z.Yd.load rfl Try.isAgg3 (fun _ => Z.cellB (by first | ((repeat (first | exact List.mem_cons_self | refine List.mem_cons_of_mem _ ?_ | refine List.mem_append_right _ ?_)); done) | fail) rfl) | exact Z.Yd.load rfl Try.isAgg3 (fun _ => Z.cellO (by assumption) (by simp) (by assumption)) | fail "load 6.1") ?_
          refine Z.l rfl rfl (by rfl) (Z.keepS hs) (Z.Yd.fieldA (m := 5) rfl (by kernel_rfl)) ?_
          refine Z.le rfl trivial ?_
          first | refine Z.ZO.store rfl rfl hs Try.sizeOf44 rfl rfl rfl (by first | exact SX.at0 | exact SX.at1 | exact SX.at2 | exact SX.at3 | exact SX.at4 | exact SX.at5 | exact Z.at6 | exact Z.at7 | exact Z.at8 | exact Z.at9 | exact Z.at10 | exact Z.at11 | exact Z.at12) (by first | (simp; done) | (simp; omega)) ?_ | refine Z.ZO.storeR rfl rfl hs Try.sizeOf44 rfl rfl rfl (by first | exact SX.at0 | exact SX.at1 | exact SX.at2 | exact SX.at3 | exact SX.at4 | exact SX.at5 | exact Z.at6 | exact Z.at7 | exact Z.at8 | exact Z.at9 | exact Z.at10 | exact Z.at11 | exact Z.at12) (by first | omega | (simp [ints_length]; done) | (simp [ints_length]; omega)) ?_
          clear hs; intro ws hs
          simp only [Nat.zero_add, Nat.add_zero, Nat.reduceAdd, Int.reduceToNat, Nat.reduceMul, List.set_cons_zero, List.set_cons_succ, List.setIfInBounds_toArray] at hs
          refine Z.l rfl rfl (by rfl) (Z.keepS hs) (Z.Yd.fieldA (m := 7) rfl (by kernel_rfl)) ?_
          refine Z.le rfl trivial ?_
          first | refine Z.ZO.store rfl rfl hs Try.sizeOf3 rfl rfl rfl (by first | exact SX.at0 | exact SX.at1 | exact SX.at2 | exact SX.at3 | exact SX.at4 | exact SX.at5 | exact Z.at6 | exact Z.at7 | exact Z.at8 | exact Z.at9 | exact Z.at10 | exact Z.at11 | exact Z.at12) (by first | (simp; done) | (simp; omega)) ?_ | refine Z.ZO.storeR rfl rfl hs Try.sizeOf3 rfl rfl rfl (by first | exact SX.at0 | exact SX.at1 | exact SX.at2 | exact SX.at3 | exact SX.at4 | exact SX.at5 | exact Z.at6 | exact Z.at7 | exact Z.at8 | exact Z.at9 | exact Z.at10 | exact Z.at11 | exact Z.at12) (by first | omega | (simp [ints_length]; done) | (simp [ints_length]; omega)) ?_
          clear hs; intro ws hs
          simp only [Nat.zero_add, Nat.add_zero, Nat.reduceAdd, Int.reduceToNat, Nat.reduceMul, List.set_cons_zero, List.set_cons_succ, List.setIfInBounds_toArray] at hs
          refine Z.l rfl rfl (by rfl) (Z.keepS hs) (Z.Yd.fieldA (m := 10) rfl (by kernel_rfl)) ?_
          refine Z.le rfl trivial ?_
          first | refine Z.ZO.store rfl rfl hs Try.sizeOf3 rfl rfl rfl (by first | exact SX.at0 | exact SX.at1 | exact SX.at2 | exact SX.at3 | exact SX.at4 | exact SX.at5 | exact Z.at6 | exact Z.at7 | exact Z.at8 | exact Z.at9 | exact Z.at10 | exact Z.at11 | exact Z.at12) (by first | (simp; done) | (simp; omega)) ?_ | refine Z.ZO.storeR rfl rfl hs Try.sizeOf3 rfl rfl rfl (by first | exact SX.at0 | exact SX.at1 | exact SX.at2 | exact SX.at3 | exact SX.at4 | exact SX.at5 | exact Z.at6 | exact Z.at7 | exact Z.at8 | exact Z.at9 | exact Z.at10 | exact Z.at11 | exact Z.at12) (by first | omega | (simp [ints_length]; done) | (simp [ints_length]; omega)) ?_
          clear hs; intro ws hs
          simp only [Nat.zero_add, Nat.add_zero, Nat.reduceAdd, Int.reduceToNat, Nat.reduceMul, List.set_cons_zero, List.set_cons_succ, List.setIfInBounds_toArray] at hs
          refine Z.l rfl rfl (by rfl) (Z.keepS hs) (Z.Yd.fieldA (m := 11) rfl (by kernel_rfl)) ?_
          refine Z.le rfl trivial ?_
          first | refine Z.ZO.store rfl rfl hs Try.sizeOf3 rfl rfl rfl (by first | exact SX.at0 | exact SX.at1 | exact SX.at2 | exact SX.at3 | exact SX.at4 | exact SX.at5 | exact Z.at6 | exact Z.at7 | exact Z.at8 | exact Z.at9 | exact Z.at10 | exact Z.at11 | exact Z.at12) (by first | (simp; done) | (simp; omega)) ?_ | refine Z.ZO.storeR rfl rfl hs Try.sizeOf3 rfl rfl rfl (by first | exact SX.at0 | exact SX.at1 | exact SX.at2 | exact SX.at3 | exact SX.at4 | exact SX.at5 | exact Z.at6 | exact Z.at7 | exact Z.at8 | exact Z.at9 | exact Z.at10 | exact Z.at11 | exact Z.at12) (by first | omega | (simp [ints_length]; done) | (simp [ints_length]; omega)) ?_
          clear hs; intro ws hs
          simp only [Nat.zero_add, Nat.add_zero, Nat.reduceAdd, Int.reduceToNat, Nat.reduceMul, List.set_cons_zero, List.set_cons_succ, List.setIfInBounds_toArray] at hs
          refine Z.lnil ?_
          refine Z.only [4, 6] rfl ?_
          refine Z.nthen ?_
          refine Z.seq ?_
          refine Z.region ?_
          refine Z.l rfl rfl (by rfl) (Z.keepS hs) (by first | exact Z.Yd.loadA _ rfl Try.isAgg51 (fun _ => Z.cellsB (by first | ((repeat (first | exact List.mem_cons_self | refine List.mem_cons_of_mem _ ?_ | refine List.mem_append_right _ ?_)); done) | fail)) (by exact Try.sizeOf51) | fail "load 7.0") ?_
          refine Z.le rfl trivial ?_
          first | refine Z.ZO.storeA rfl rfl hs rfl rfl (by kernel_rfl) (by first | (simp [Value.oneCell']; done) | (refine Z.all_one ?_; assumption)) (by first | exact SX.at0 | exact SX.at1 | exact SX.at2 | exact SX.at3 | exact SX.at4 | exact SX.at5 | exact Z.at6 | exact Z.at7 | exact Z.at8 | exact Z.at9 | exact Z.at10 | exact Z.at11 | exact Z.at12) (by rfl) ?_ | refine Z.ZO.storeP rfl rfl hs rfl rfl (by kernel_rfl) (by first | (simp [Value.oneCell']; done) | (refine Z.all_one ?_; assumption)) (by first | exact SX.at0 | exact SX.at1 | exact SX.at2 | exact SX.at3 | exact SX.at4 | exact SX.at5 | exact Z.at6 | exact Z.at7 | exact Z.at8 | exact Z.at9 | exact Z.at10 | exact Z.at11 | exact Z.at12) (by first | decide | (simp; done) | (simp; omega)) ?_ | refine Z.ZO.storePR rfl rfl hs rfl rfl (by kernel_rfl) (by first | (simp [Value.oneCell']; done) | (refine Z.all_one ?_; assumption)) (by first | exact SX.at0 | exact SX.at1 | exact SX.at2 | exact SX.at3 | exact SX.at4 | exact SX.at5 | exact Z.at6 | exact Z.at7 | exact Z.at8 | exact Z.at9 | exact Z.at10 | exact Z.at11 | exact Z.at12) (by first | decide | (simp; done) | (simp; omega)) ?_
          clear hs; intro ws hs
          simp only [Nat.zero_add, Nat.add_zero, Nat.reduceAdd, Int.reduceToNat, Nat.reduceMul, List.set_cons_zero, List.set_cons_succ, List.setIfInBounds_toArray] at hs
          try simp only [Z.putL, Nat.zero_add] at hs
          refine Z.lb 1 rfl ?_
          refine Z.lnil ?_
          refine Z.only [4, 5] rfl ?_
          refine Z.nthen ?_
          refine Z.ret ?_
          -- ret#1
          refine Z.out2 (by exact ⟨⟨_, rfl, Z.rvcA hs Try.isAgg51 (by first | ((repeat (first | exact List.mem_cons_self | refine List.mem_cons_of_mem _ ?_ | refine List.mem_append_right _ ?_)); done) | fail) (by exact Try.sizeOf51)⟩, rfl, trivial⟩) ?_
          exact ⟨_, rfl, rfl, hs.sub (List.nil_sublist _)⟩
          )
  · have e1 : tickR m t = m := if_neg ht
    have e2 : tickE t = 2 := if_neg ht
    have e3 : startV m t = (m, 2) := if_neg ht
    rw [e1] at hone
    rw [e3]
    refine Z.enter Try.func43 rfl Try.ntmps43 rfl rfl ?_
    refine Z.seq ?_
    refine Z.region ?_
    refine Z.le rfl trivial ?_
    refine Z.ZO.box rfl rfl (by rfl) rfl rfl hs ?_
    clear hs; intro g2 w2 hs
    refine Z.le rfl trivial ?_
    refine Z.ZO.alloc rfl rfl (by rfl) Try.zeroValue51 rfl hs ?_
    clear hs; intro g4 w4 hs
    refine Z.lb 1 rfl ?_
    refine Z.lnil ?_
    refine Z.only [1, 2, 4] rfl ?_
    refine Z.nthen ?_
    refine Z.seq ?_
    refine Z.region ?_
    refine Z.l rfl rfl (by rfl) (Z.keepS hs) (by first | exact Z.Yd.loadA _ rfl Try.isAgg51 (fun _ => Z.cellsB (by first | ((repeat (first | exact List.mem_cons_self | refine List.mem_cons_of_mem _ ?_ | refine List.mem_append_right _ ?_)); done) | fail)) (by exact Try.sizeOf51) | fail "load 1.0") ?_
    refine Z.lb 1 rfl ?_
    refine Z.le rfl trivial ?_
    refine Z.ZO.call rfl rfl (by rfl) rfl rfl Try.call47 rfl (acr_tick m t _ hm) ?_
    rintro v1_2 w1_2 ⟨rfl, hy⟩
    replace hs := hs.call hy
    clear hy
    try simp only [List.cons_append, List.nil_append, List.append_nil] at hs
    rw [e1, e2]
    refine Z.lb 3 rfl ?_
    refine Z.le rfl trivial ?_
    refine Z.ZO.alloc rfl rfl (by rfl) Try.zeroValue51 rfl hs ?_
    clear hs; intro g6 w6 hs
    refine Z.le rfl trivial ?_
    first | refine Z.ZO.storeA rfl rfl hs rfl rfl (by kernel_rfl) (by first | (simp [Value.oneCell']; done) | (refine Z.all_one ?_; assumption)) (by first | exact SX.at0 | exact SX.at1 | exact SX.at2 | exact SX.at3 | exact SX.at4 | exact SX.at5 | exact Z.at6 | exact Z.at7 | exact Z.at8 | exact Z.at9 | exact Z.at10 | exact Z.at11 | exact Z.at12) (by rfl) ?_ | refine Z.ZO.storeP rfl rfl hs rfl rfl (by kernel_rfl) (by first | (simp [Value.oneCell']; done) | (refine Z.all_one ?_; assumption)) (by first | exact SX.at0 | exact SX.at1 | exact SX.at2 | exact SX.at3 | exact SX.at4 | exact SX.at5 | exact Z.at6 | exact Z.at7 | exact Z.at8 | exact Z.at9 | exact Z.at10 | exact Z.at11 | exact Z.at12) (by first | decide | (simp; done) | (simp; omega)) ?_ | refine Z.ZO.storePR rfl rfl hs rfl rfl (by kernel_rfl) (by first | (simp [Value.oneCell']; done) | (refine Z.all_one ?_; assumption)) (by first | exact SX.at0 | exact SX.at1 | exact SX.at2 | exact SX.at3 | exact SX.at4 | exact SX.at5 | exact Z.at6 | exact Z.at7 | exact Z.at8 | exact Z.at9 | exact Z.at10 | exact Z.at11 | exact Z.at12) (by first | decide | (simp; done) | (simp; omega)) ?_
    clear hs; intro ws hs
    simp only [Nat.zero_add, Nat.add_zero, Nat.reduceAdd, Int.reduceToNat, Nat.reduceMul, List.set_cons_zero, List.set_cons_succ, List.setIfInBounds_toArray] at hs
    try simp only [Z.putL, Nat.zero_add] at hs
    refine Z.lb 1 rfl ?_
    refine Z.lnil ?_
    refine Z.only [2, 4, 6, 7] rfl ?_
    refine Z.nthen ?_
    refine Z.seq ?_
    refine Z.seq ?_
    refine Z.region ?_
    refine Z.lb 2 rfl ?_
    refine Z.lnil ?_
    refine Z.only [2, 4, 6, 7, 15] rfl ?_
    refine Z.nthen ?_
    refine Z.cond rfl (fun hc2 => ?_) (fun h => absurd h (by simp))
    refine Z.seq ?_
    refine Z.region ?_
    refine Z.l rfl rfl (by rfl) (Z.keepS hs) (by first | exact Z.Yd.loadA _ rfl Try.isAgg51 (fun _ => Z.cellsB (by first | ((repeat (first | exact List.mem_cons_self | refine List.mem_cons_of_mem _ ?_ | refine List.mem_append_right _ ?_)); done) | fail)) (by exact Try.sizeOf51) | fail "load 3.0") ?_
    refine Z.lb 1 rfl ?_
    refine Z.le rfl trivial ?_
    first | refine Z.ZO.storeA rfl rfl hs rfl rfl (by kernel_rfl) (by first | (simp [Value.oneCell']; done) | (refine Z.all_one ?_; assumption)) (by first | exact SX.at0 | exact SX.at1 | exact SX.at2 | exact SX.at3 | exact SX.at4 | exact SX.at5 | exact Z.at6 | exact Z.at7 | exact Z.at8 | exact Z.at9 | exact Z.at10 | exact Z.at11 | exact Z.at12) (by rfl) ?_ | refine Z.ZO.storeP rfl rfl hs rfl rfl (by kernel_rfl) (by first | (simp [Value.oneCell']; done) | (refine Z.all_one ?_; assumption)) (by first | exact SX.at0 | exact SX.at1 | exact SX.at2 | exact SX.at3 | exact SX.at4 | exact SX.at5 | exact Z.at6 | exact Z.at7 | exact Z.at8 | exact Z.at9 | exact Z.at10 | exact Z.at11 | exact Z.at12) (by first | decide | (simp; done) | (simp; omega)) ?_ | refine Z.ZO.storePR rfl rfl hs rfl rfl (by kernel_rfl) (by first | (simp [Value.oneCell']; done) | (refine Z.all_one ?_; assumption)) (by first | exact SX.at0 | exact SX.at1 | exact SX.at2 | exact SX.at3 | exact SX.at4 | exact SX.at5 | exact Z.at6 | exact Z.at7 | exact Z.at8 | exact Z.at9 | exact Z.at10 | exact Z.at11 | exact Z.at12) (by first | decide | (simp; done) | (simp; omega)) ?_
    clear hs; intro ws hs
    simp only [Nat.zero_add, Nat.add_zero, Nat.reduceAdd, Int.reduceToNat, Nat.reduceMul, List.set_cons_zero, List.set_cons_succ, List.setIfInBounds_toArray] at hs
    try simp only [Z.putL, Nat.zero_add] at hs
    refine Z.lb 1 rfl ?_
    refine Z.lnil ?_
    refine Z.only [4, 5] rfl ?_
    refine Z.nthen ?_
    refine Z.ret ?_
    repeat (first | refine Z.rthen ?_ | refine Z.rblock ?_ | refine Z.rscope ?_)
    -- ret#0
    refine Z.out2 (by exact ⟨⟨_, rfl, Z.rvcA hs Try.isAgg51 (by first | ((repeat (first | exact List.mem_cons_self | refine List.mem_cons_of_mem _ ?_ | refine List.mem_append_right _ ?_)); done) | fail) (by exact Try.sizeOf51)⟩, rfl, trivial⟩) ?_
    exact ⟨_, rfl, rfl, hs.sub (List.nil_sublist _)⟩
theorem acr_send (m : AcV) (t d : Int) (w : World) (hm : m.ok) :
    Calls Try.prog 44 #[.agg m.cells.toArray, .int .i64 t, .int .i64 d] w (SX.Ret fun v w' => v = .tuple #[.agg (sendV m t d).1.cells.toArray, .int .i64 (sendV m t d).2.1, .int .i64 (sendV m t d).2.2] ∧ SX.St w [] w' []) := by
  have hs := SX.St.start w
  show Calls Try.prog 44 #[.agg #[.int .u64 (m).id, .int .i64 (m).rnt, .int .i64 (m).win, .int .i64 (m).con, .int .i64 (m).max, .int .i64 (m).st, .int .i64 (m).now, .int .i64 (m).due, .int .i64 (m).frm, .int .i64 (m).pre, .int .i64 (m).att, .int .i64 (m).bnd, .int .i64 (m).rn], .int .i64 t, .int .i64 d] w _
  have hone := ac_one (tickR m t)
  by_cases ht : okT t ∧ 0 ≤ d
  · have e1 : tickR m t = tickV m t := if_pos ht.1
    have e2 : tickE t = 0 := if_pos ht.1
    have e3 : sendV m t d = (if (tickV m t).st = 1 then (if (tickV m t).now < (tickV m t).due then (tickV m t, 0, 10) else ({ tickV m t with pre := d % 64, frm := (tickV m t).now + 3, att := (tickV m t).att + 1, st := 2, due := (tickV m t).now + 3 + (tickV m t).win }, d % 64, 0)) else (tickV m t, 0, 8)) := if_pos ht
    have hbk := hm.tick ht.1
    have hd := ht.2
    rw [e1] at hone
    rw [e3]
    obtain ⟨b, hb⟩ : ∃ b, b = tickV m t := ⟨_, rfl⟩
    rw [← hb] at hone e1 hbk ⊢
    obtain ⟨h1, h2, h3, h4, h5, h6, h7, h8, h9, h10⟩ := hbk
    have h11 := h1.2.2.1
    have h12 := h1.2.2.2.2
    refine Z.enter Try.func44 rfl Try.ntmps44 rfl rfl ?_
    refine Z.seq ?_
    refine Z.region ?_
    refine Z.le rfl trivial ?_
    refine Z.ZO.box rfl rfl (by rfl) rfl rfl hs ?_
    clear hs; intro g3 w3 hs
    refine Z.le rfl trivial ?_
    refine Z.ZO.alloc rfl rfl (by rfl) Try.zeroValue51 rfl hs ?_
    clear hs; intro g6 w6 hs
    refine Z.lb 2 rfl ?_
    refine Z.lnil ?_
    refine Z.only [1, 2, 3, 6] rfl ?_
    refine Z.nthen ?_
    refine Z.seq ?_
    refine Z.region ?_
    refine Z.l rfl rfl (by rfl) (Z.keepS hs) (by first | exact Z.Yd.loadA _ rfl Try.isAgg51 (fun _ => Z.cellsB (by first | ((repeat (first | exact List.mem_cons_self | refine List.mem_cons_of_mem _ ?_ | refine List.mem_append_right _ ?_)); done) | fail)) (by exact Try.sizeOf51) | fail "load 1.0") ?_
    refine Z.lb 1 rfl ?_
    refine Z.le rfl trivial ?_
    refine Z.ZO.call rfl rfl (by rfl) rfl rfl Try.call47 rfl (acr_tick m t _ hm) ?_
    rintro v1_2 w1_2 ⟨rfl, hy⟩
    replace hs := hs.call hy
    clear hy
    try simp only [List.cons_append, List.nil_append, List.append_nil] at hs
    rw [e1, e2]
    refine Z.lb 3 rfl ?_
    refine Z.le rfl trivial ?_
    refine Z.ZO.alloc rfl rfl (by rfl) Try.zeroValue51 rfl hs ?_
    clear hs; intro g9 w9 hs
    refine Z.le rfl trivial ?_
    first | refine Z.ZO.storeA rfl rfl hs rfl rfl (by kernel_rfl) (by first | (simp [Value.oneCell']; done) | (refine Z.all_one ?_; assumption)) (by first | exact SX.at0 | exact SX.at1 | exact SX.at2 | exact SX.at3 | exact SX.at4 | exact SX.at5 | exact Z.at6 | exact Z.at7 | exact Z.at8 | exact Z.at9 | exact Z.at10 | exact Z.at11 | exact Z.at12) (by rfl) ?_ | refine Z.ZO.storeP rfl rfl hs rfl rfl (by kernel_rfl) (by first | (simp [Value.oneCell']; done) | (refine Z.all_one ?_; assumption)) (by first | exact SX.at0 | exact SX.at1 | exact SX.at2 | exact SX.at3 | exact SX.at4 | exact SX.at5 | exact Z.at6 | exact Z.at7 | exact Z.at8 | exact Z.at9 | exact Z.at10 | exact Z.at11 | exact Z.at12) (by first | decide | (simp; done) | (simp; omega)) ?_ | refine Z.ZO.storePR rfl rfl hs rfl rfl (by kernel_rfl) (by first | (simp [Value.oneCell']; done) | (refine Z.all_one ?_; assumption)) (by first | exact SX.at0 | exact SX.at1 | exact SX.at2 | exact SX.at3 | exact SX.at4 | exact SX.at5 | exact Z.at6 | exact Z.at7 | exact Z.at8 | exact Z.at9 | exact Z.at10 | exact Z.at11 | exact Z.at12) (by first | decide | (simp; done) | (simp; omega)) ?_
    clear hs; intro ws hs
    simp only [Nat.zero_add, Nat.add_zero, Nat.reduceAdd, Int.reduceToNat, Nat.reduceMul, List.set_cons_zero, List.set_cons_succ, List.setIfInBounds_toArray] at hs
    try simp only [Z.putL, Nat.zero_add] at hs
    refine Z.lb 1 rfl ?_
    refine Z.lnil ?_
    refine Z.only [2, 3, 6, 9, 10] rfl ?_
    refine Z.nthen ?_
    refine Z.seq ?_
    refine Z.seq ?_
    refine Z.region ?_
    replace hs : SX.St w [] _ [SX.Ent.blk g9 51 #[.int .u64 (b).id, .int .i64 (b).rnt, .int .i64 (b).win, .int .i64 (b).con, .int .i64 (b).max, .int .i64 (b).st, .int .i64 (b).now, .int .i64 (b).due, .int .i64 (b).frm, .int .i64 (b).pre, .int .i64 (b).att, .int .i64 (b).bnd, .int .i64 (b).rn], _, _] := hs
    refine Z.l rfl rfl (by rfl) (Z.keepS hs) (Z.Yd.pure rfl) ?_
    refine Z.lb 5 rfl ?_
    refine Z.lnil ?_
    refine Z.only [2, 3, 6, 9, 22] rfl ?_
    refine Z.nthen ?_
    refine Z.cond rfl (fun h => absurd h (by simp; omega)) (fun hc2 => ?_)
    refine Z.skip ?_
    refine Z.nthen ?_
    refine Z.seq ?_
    refine Z.seq ?_
    refine Z.region ?_
    refine Z.l rfl rfl (by rfl) (Z.keepS hs) (Z.Yd.fieldA (m := 5) rfl (by kernel_rfl)) ?_
    refine Z.l rfl rfl (by rfl) (Z.keepS hs) (by first | exact Z.Yd.load rfl Try.isAgg44 (fun _ => Z.cellB (by first | ((repeat (first | exact List.mem_cons_self | refine List.mem_cons_of_mem _ ?_ | refine List.mem_append_right _ ?_)); done) | fail) rfl) | exact Z.Yd.load rfl Try.isAgg44 (fun _ => Z.cellO (by assumption) (by simp) (by assumption)) | fail "load 4.1") ?_
    refine Z.lb 1 rfl ?_
    refine Z.lnil ?_
    refine Z.only [2, 6, 9, 26] rfl ?_
    refine Z.nthen ?_
    refine Z.cond rfl (fun hc4 => ?_) (fun hc4 => ?_)
    · first
        | (exfalso; simp at hc4 <;> omega)
        | (
          (try simp at hc4)
          rw [if_neg (by assumption)]
          refine Z.seq ?_
          refine Z.region ?_
          refine Z.l rfl rfl (by rfl) (Z.keepS hs) (by first | exact Z.Yd.loadA _ rfl Try.isAgg51 (fun _ => Z.cellsB (by first | ((repeat (first | exact List.mem_cons_self | refine List.mem_cons_of_mem _ ?_ | refine List.mem_append_right _ ?_)); done) | fail)) (by exact Try.sizeOf51) | fail "load 5.0") ?_
          refine Z.le rfl trivial ?_
          first | refine Z.ZO.storeA rfl rfl hs rfl rfl (by kernel_rfl) (by first | (simp [Value.oneCell']; done) | (refine Z.all_one ?_; assumption)) (by first | exact SX.at0 | exact SX.at1 | exact SX.at2 | exact SX.at3 | exact SX.at4 | exact SX.at5 | exact Z.at6 | exact Z.at7 | exact Z.at8 | exact Z.at9 | exact Z.at10 | exact Z.at11 | exact Z.at12) (by rfl) ?_ | refine Z.ZO.storeP rfl rfl hs rfl rfl (by kernel_rfl) (by first | (simp [Value.oneCell']; done) | (refine Z.all_one ?_; assumption)) (by first | exact SX.at0 | exact SX.at1 | exact SX.at2 | exact SX.at3 | exact SX.at4 | exact SX.at5 | exact Z.at6 | exact Z.at7 | exact Z.at8 | exact Z.at9 | exact Z.at10 | exact Z.at11 | exact Z.at12) (by first | decide | (simp; done) | (simp; omega)) ?_ | refine Z.ZO.storePR rfl rfl hs rfl rfl (by kernel_rfl) (by first | (simp [Value.oneCell']; done) | (refine Z.all_one ?_; assumption)) (by first | exact SX.at0 | exact SX.at1 | exact SX.at2 | exact SX.at3 | exact SX.at4 | exact SX.at5 | exact Z.at6 | exact Z.at7 | exact Z.at8 | exact Z.at9 | exact Z.at10 | exact Z.at11 | exact Z.at12) (by first | decide | (simp; done) | (simp; omega)) ?_
          clear hs; intro ws hs
          simp only [Nat.zero_add, Nat.add_zero, Nat.reduceAdd, Int.reduceToNat, Nat.reduceMul, List.set_cons_zero, List.set_cons_succ, List.setIfInBounds_toArray] at hs
          try simp only [Z.putL, Nat.zero_add] at hs
          refine Z.lb 2 rfl ?_
          refine Z.lnil ?_
          refine Z.only [6, 7, 8] rfl ?_
          refine Z.nthen ?_
          refine Z.ret ?_
          repeat (first | refine Z.rthen ?_ | refine Z.rblock ?_ | refine Z.rscope ?_)
          -- ret#0
          refine Z.out3 (by exact ⟨⟨_, rfl, Z.rvcA hs Try.isAgg51 (by first | ((repeat (first | exact List.mem_cons_self | refine List.mem_cons_of_mem _ ?_ | refine List.mem_append_right _ ?_)); done) | fail) (by exact Try.sizeOf51)⟩, rfl, rfl, trivial⟩) ?_
          exact ⟨_, rfl, rfl, hs.sub (List.nil_sublist _)⟩
          )
    · first
        | (exfalso; simp at hc4 <;> omega)
        | (
          (try simp at hc4)
          rw [if_pos (by assumption)]
          refine Z.skip ?_
          refine Z.nthen ?_
          refine Z.seq ?_
          refine Z.seq ?_
          refine Z.region ?_
          refine Z.l rfl rfl (by rfl) (Z.keepS hs) (Z.Yd.fieldA (m := 6) rfl (by kernel_rfl)) ?_
          refine Z.l rfl rfl (by rfl) (Z.keepS hs) (by first | exact Z.Yd.load rfl Try.isAgg3 (fun _ => Z.cellB (by first | ((repeat (first | exact List.mem_cons_self | refine List.mem_cons_of_mem _ ?_ | refine List.mem_append_right _ ?_)); done) | fail) rfl) | exact Z.Yd.load rfl Try.isAgg3 (fun _ => Z.cellO (by assumption) (by simp) (by assumption)) | fail "load 6.1") ?_
          refine Z.l rfl rfl (by rfl) (Z.keepS hs) (Z.Yd.fieldA (m := 7) rfl (by kernel_rfl)) ?_
          refine Z.l rfl rfl (by rfl) (Z.keepS hs) (by first | exact Z.Yd.load rfl Try.isAgg3 (fun _ => Z.cellB (by first | ((repeat (first | exact List.mem_cons_self | refine List.mem_cons_of_mem _ ?_ | refine List.mem_append_right _ ?_)); done) | fail) rfl) | exact Z.Yd.load rfl Try.isAgg3 (fun _ => Z.cellO (by assumption) (by simp) (by assumption)) | fail "load 6.3") ?_
          refine Z.lb 1 rfl ?_
          refine Z.lnil ?_
          refine Z.only [2, 6, 9, 32] rfl ?_
          refine Z.nthen ?_
          refine Z.cond rfl (fun hc6 => ?_) (fun hc6 => ?_)
          · first
              | (exfalso; simp at hc6 <;> omega)
              | (
                (try simp at hc6)
                rw [if_pos (by assumption)]
                refine Z.seq ?_
                refine Z.region ?_
                refine Z.l rfl rfl (by rfl) (Z.keepS hs) (by first | exact Z.Yd.loadA _ rfl Try.isAgg51 (fun _ => Z.cellsB (by first | ((repeat (first | exact List.mem_cons_self | refine List.mem_cons_of_mem _ ?_ | refine List.mem_append_right _ ?_)); done) | fail)) (by exact Try.sizeOf51) | fail "load 7.0") ?_
                refine Z.le rfl trivial ?_
                first | refine Z.ZO.storeA rfl rfl hs rfl rfl (by kernel_rfl) (by first | (simp [Value.oneCell']; done) | (refine Z.all_one ?_; assumption)) (by first | exact SX.at0 | exact SX.at1 | exact SX.at2 | exact SX.at3 | exact SX.at4 | exact SX.at5 | exact Z.at6 | exact Z.at7 | exact Z.at8 | exact Z.at9 | exact Z.at10 | exact Z.at11 | exact Z.at12) (by rfl) ?_ | refine Z.ZO.storeP rfl rfl hs rfl rfl (by kernel_rfl) (by first | (simp [Value.oneCell']; done) | (refine Z.all_one ?_; assumption)) (by first | exact SX.at0 | exact SX.at1 | exact SX.at2 | exact SX.at3 | exact SX.at4 | exact SX.at5 | exact Z.at6 | exact Z.at7 | exact Z.at8 | exact Z.at9 | exact Z.at10 | exact Z.at11 | exact Z.at12) (by first | decide | (simp; done) | (simp; omega)) ?_ | refine Z.ZO.storePR rfl rfl hs rfl rfl (by kernel_rfl) (by first | (simp [Value.oneCell']; done) | (refine Z.all_one ?_; assumption)) (by first | exact SX.at0 | exact SX.at1 | exact SX.at2 | exact SX.at3 | exact SX.at4 | exact SX.at5 | exact Z.at6 | exact Z.at7 | exact Z.at8 | exact Z.at9 | exact Z.at10 | exact Z.at11 | exact Z.at12) (by first | decide | (simp; done) | (simp; omega)) ?_
                clear hs; intro ws hs
                simp only [Nat.zero_add, Nat.add_zero, Nat.reduceAdd, Int.reduceToNat, Nat.reduceMul, List.set_cons_zero, List.set_cons_succ, List.setIfInBounds_toArray] at hs
                try simp only [Z.putL, Nat.zero_add] at hs
                refine Z.lb 2 rfl ?_
                refine Z.lnil ?_
                refine Z.only [6, 7, 8] rfl ?_
                refine Z.nthen ?_
                refine Z.ret ?_
                repeat (first | refine Z.rthen ?_ | refine Z.rblock ?_ | refine Z.rscope ?_)
                -- ret#1
                refine Z.out3 (by exact ⟨⟨_, rfl, Z.rvcA hs Try.isAgg51 (by first | ((repeat (first | exact List.mem_cons_self | refine List.mem_cons_of_mem _ ?_ | refine List.mem_append_right _ ?_)); done) | fail) (by exact Try.sizeOf51)⟩, rfl, rfl, trivial⟩) ?_
                exact ⟨_, rfl, rfl, hs.sub (List.nil_sublist _)⟩
                )
          · first
              | (exfalso; simp at hc6 <;> omega)
              | (
                (try simp at hc6)
                rw [if_neg (by omega)]
                refine Z.skip ?_
                refine Z.nthen ?_
                refine Z.seq ?_
                refine Z.region ?_
                refine Z.lb 1 rfl ?_
                refine Z.l rfl rfl (by rfl) (Z.keepS hs) (Z.Yd.rem rfl rfl (by intro hG; first | decide | omega) (by intro hG; first | exact Z.tmodn (by omega) | exact rfl)) ?_
                refine Z.l rfl rfl (by rfl) (Z.keepS hs) (Z.Yd.fieldA (m := 9) rfl (by kernel_rfl)) ?_
                refine Z.le rfl trivial ?_
                first | refine Z.ZO.store rfl rfl hs Try.sizeOf3 rfl rfl rfl (by first | exact SX.at0 | exact SX.at1 | exact SX.at2 | exact SX.at3 | exact SX.at4 | exact SX.at5 | exact Z.at6 | exact Z.at7 | exact Z.at8 | exact Z.at9 | exact Z.at10 | exact Z.at11 | exact Z.at12) (by first | (simp; done) | (simp; omega)) ?_ | refine Z.ZO.storeR rfl rfl hs Try.sizeOf3 rfl rfl rfl (by first | exact SX.at0 | exact SX.at1 | exact SX.at2 | exact SX.at3 | exact SX.at4 | exact SX.at5 | exact Z.at6 | exact Z.at7 | exact Z.at8 | exact Z.at9 | exact Z.at10 | exact Z.at11 | exact Z.at12) (by first | omega | (simp [ints_length]; done) | (simp [ints_length]; omega)) ?_
                clear hs; intro ws hs
                simp only [Nat.zero_add, Nat.add_zero, Nat.reduceAdd, Int.reduceToNat, Nat.reduceMul, List.set_cons_zero, List.set_cons_succ, List.setIfInBounds_toArray] at hs
                refine Z.lnil ?_
                refine Z.only [6, 9] rfl ?_
                refine Z.nthen ?_
                refine Z.seq ?_
                refine Z.region ?_
                refine Z.l rfl rfl (by rfl) (Z.keepS hs) (Z.Yd.fieldA (m := 6) rfl (by kernel_rfl)) ?_
                refine Z.l rfl rfl (by rfl) (Z.keepS hs) (by first | exact Z.Yd.load rfl Try.isAgg3 (fun _ => Z.cellB (by first | ((repeat (first | exact List.mem_cons_self | refine List.mem_cons_of_mem _ ?_ | refine List.mem_append_right _ ?_)); done) | fail) rfl) | exact Z.Yd.load rfl Try.isAgg3 (fun _ => Z.cellO (by assumption) (by simp) (by assumption)) | fail "load 9.1") ?_
                refine Z.l rfl rfl (by rfl) (Z.keepS hs) (Z.Yd.add rfl rfl (fun hG => Z.wi64 (by first | omega | (have hG' := Z.gh rfl hG; simp at hG'; omega)))) ?_
                refine Z.l rfl rfl (by rfl) (Z.keepS hs) (Z.Yd.fieldA (m := 8) rfl (by kernel_rfl)) ?_
                refine Z.le rfl trivial ?_
                first | refine Z.ZO.store rfl rfl hs Try.sizeOf3 rfl rfl rfl (by first | exact SX.at0 | exact SX.at1 | exact SX.at2 | exact SX.at3 | exact SX.at4 | exact SX.at5 | exact Z.at6 | exact Z.at7 | exact Z.at8 | exact Z.at9 | exact Z.at10 | exact Z.at11 | exact Z.at12) (by first | (simp; done) | (simp; omega)) ?_ | refine Z.ZO.storeR rfl rfl hs Try.sizeOf3 rfl rfl rfl (by first | exact SX.at0 | exact SX.at1 | exact SX.at2 | exact SX.at3 | exact SX.at4 | exact SX.at5 | exact Z.at6 | exact Z.at7 | exact Z.at8 | exact Z.at9 | exact Z.at10 | exact Z.at11 | exact Z.at12) (by first | omega | (simp [ints_length]; done) | (simp [ints_length]; omega)) ?_
                clear hs; intro ws hs
                simp only [Nat.zero_add, Nat.add_zero, Nat.reduceAdd, Int.reduceToNat, Nat.reduceMul, List.set_cons_zero, List.set_cons_succ, List.setIfInBounds_toArray] at hs
                refine Z.lnil ?_
                refine Z.only [6, 9] rfl ?_
                refine Z.nthen ?_
                refine Z.seq ?_
                refine Z.region ?_
                refine Z.l rfl rfl (by rfl) (Z.keepS hs) (Z.Yd.fieldA (m := 10) rfl (by kernel_rfl)) ?_
                refine Z.l rfl rfl (by rfl) (Z.keepS hs) (by first | exact Z.Yd.load rfl Try.isAgg3 (fun _ => Z.cellB (by first | ((repeat (first | exact List.mem_cons_self | refine List.mem_cons_of_mem _ ?_ | refine List.mem_append_right _ ?_)); done) | fail) rfl) | exact Z.Yd.load rfl Try.isAgg3 (fun _ => Z.cellO (by assumption) (by simp) (by assumption)) | fail "load 10.1") ?_
                refine Z.l rfl rfl (by rfl) (Z.keepS hs) (Z.Yd.add rfl rfl (fun hG => Z.wi64 (by first | omega | (have hG' := Z.gh rfl hG; simp at hG'; omega)))) ?_
                refine Z.l rfl rfl (by rfl) (Z.keepS hs) (Z.Yd.fieldA (m := 10) rfl (by kernel_rfl)) ?_
                refine Z.le rfl trivial ?_
                first | refine Z.ZO.store rfl rfl hs Try.sizeOf3 rfl rfl rfl (by first | exact SX.at0 | exact SX.at1 | exact SX.at2 | exact SX.at3 | exact SX.at4 | exact SX.at5 | exact Z.at6 | exact Z.at7 | exact Z.at8 | exact Z.at9 | exact Z.at10 | exact Z.at11 | exact Z.at12) (by first | (simp; done) | (simp; omega)) ?_ | refine Z.ZO.storeR rfl rfl hs Try.sizeOf3 rfl rfl rfl (by first | exact SX.at0 | exact SX.at1 | exact SX.at2 | exact SX.at3 | exact SX.at4 | exact SX.at5 | exact Z.at6 | exact Z.at7 | exact Z.at8 | exact Z.at9 | exact Z.at10 | exact Z.at11 | exact Z.at12) (by first | omega | (simp [ints_length]; done) | (simp [ints_length]; omega)) ?_
                clear hs; intro ws hs
                simp only [Nat.zero_add, Nat.add_zero, Nat.reduceAdd, Int.reduceToNat, Nat.reduceMul, List.set_cons_zero, List.set_cons_succ, List.setIfInBounds_toArray] at hs
                refine Z.lnil ?_
                refine Z.only [6, 9] rfl ?_
                refine Z.nthen ?_
                refine Z.seq ?_
                refine Z.region ?_
                refine Z.l rfl rfl (by rfl) (Z.keepS hs) (Z.Yd.fieldA (m := 8) rfl (by kernel_rfl)) ?_
                refine Z.l rfl rfl (by rfl) (Z.keepS hs) (by first | exact Z.Yd.load rfl Try.isAgg3 (fun _ => Z.cellB (by first | ((repeat (first | exact List.mem_cons_self | refine List.mem_cons_of_mem _ ?_ | refine List.mem_append_right _ ?_)); done) | fail) rfl) | exact Z.Yd.load rfl Try.isAgg3 (fun _ => Z.cellO (by assumption) (by simp) (by assumption)) | fail "load 11.1") ?_
                refine Z.l rfl rfl (by rfl) (Z.keepS hs) (Z.Yd.fieldA (m := 0) rfl (by kernel_rfl)) ?_
                refine Z.l rfl rfl (by rfl) (Z.keepS hs) (Z.Yd.fieldA (m := 2) rfl (by kernel_rfl)) ?_
                refine Z.l rfl rfl (by rfl) (Z.keepS hs) (by first | exact Z.Yd.load rfl Try.isAgg3 (fun _ => Z.cellB (by first | ((repeat (first | exact List.mem_cons_self | refine List.mem_cons_of_mem _ ?_ | refine List.mem_append_right _ ?_)); done) | fail) rfl) | exact Z.Yd.load rfl Try.isAgg3 (fun _ => Z.cellO (by assumption) (by simp) (by assumption)) | fail "load 11.4") ?_
                refine Z.l rfl rfl (by rfl) (Z.keepS hs) (Z.Yd.add rfl rfl (fun hG => Z.wi64 (by first | omega | (have hG' := Z.gh rfl hG; simp at hG'; omega)))) ?_
                refine Z.l rfl rfl (by rfl) (Z.keepS hs) (Z.Yd.fieldA (m := 5) rfl (by kernel_rfl)) ?_
                refine Z.le rfl trivial ?_
                first | refine Z.ZO.store rfl rfl hs Try.sizeOf44 rfl rfl rfl (by first | exact SX.at0 | exact SX.at1 | exact SX.at2 | exact SX.at3 | exact SX.at4 | exact SX.at5 | exact Z.at6 | exact Z.at7 | exact Z.at8 | exact Z.at9 | exact Z.at10 | exact Z.at11 | exact Z.at12) (by first | (simp; done) | (simp; omega)) ?_ | refine Z.ZO.storeR rfl rfl hs Try.sizeOf44 rfl rfl rfl (by first | exact SX.at0 | exact SX.at1 | exact SX.at2 | exact SX.at3 | exact SX.at4 | exact SX.at5 | exact Z.at6 | exact Z.at7 | exact Z.at8 | exact Z.at9 | exact Z.at10 | exact Z.at11 | exact Z.at12) (by first | omega | (simp [ints_length]; done) | (simp [ints_length]; omega)) ?_
                clear hs; intro ws hs
                simp only [Nat.zero_add, Nat.add_zero, Nat.reduceAdd, Int.reduceToNat, Nat.reduceMul, List.set_cons_zero, List.set_cons_succ, List.setIfInBounds_toArray] at hs
                refine Z.l rfl rfl (by rfl) (Z.keepS hs) (Z.Yd.fieldA (m := 7) rfl (by kernel_rfl)) ?_
                refine Z.le rfl trivial ?_
                first | refine Z.ZO.store rfl rfl hs Try.sizeOf3 rfl rfl rfl (by first | exact SX.at0 | exact SX.at1 | exact SX.at2 | exact SX.at3 | exact SX.at4 | exact SX.at5 | exact Z.at6 | exact Z.at7 | exact Z.at8 | exact Z.at9 | exact Z.at10 | exact Z.at11 | exact Z.at12) (by first | (simp; done) | (simp; omega)) ?_ | refine Z.ZO.storeR rfl rfl hs Try.sizeOf3 rfl rfl rfl (by first | exact SX.at0 | exact SX.at1 | exact SX.at2 | exact SX.at3 | exact SX.at4 | exact SX.at5 | exact Z.at6 | exact Z.at7 | exact Z.at8 | exact Z.at9 | exact Z.at10 | exact Z.at11 | exact Z.at12) (by first | omega | (simp [ints_length]; done) | (simp [ints_length]; omega)) ?_
                clear hs; intro ws hs
                simp only [Nat.zero_add, Nat.add_zero, Nat.reduceAdd, Int.reduceToNat, Nat.reduceMul, List.set_cons_zero, List.set_cons_succ, List.setIfInBounds_toArray] at hs
                refine Z.lnil ?_
                refine Z.only [6, 9] rfl ?_
                refine Z.nthen ?_
                refine Z.seq ?_
                refine Z.drawL [SX.Ent.blk g9 51 #[.int .u64 b.id, .int .i64 b.rnt, .int .i64 b.win, .int .i64 b.con, .int .i64 b.max, .int .i64 2, .int .i64 b.now, .int .i64 (b.now + 3 + b.win), .int .i64 (b.now + 3), .int .i64 (d % 64), .int .i64 (b.att + 1), .int .i64 b.bnd, .int .i64 b.rn]] (fun _ => true) mixed hs ?_
                clear hs; intro wd12 hs
                refine Z.t 0 rfl rfl rfl (by rfl) (by kernel_rfl) ⟨_, hs, by first | (simp; done) | exact fun e he => List.mem_append_right _ he⟩ (by first | exact Z.Yd.loadA _ rfl Try.isAgg51 (fun _ => Z.cellsB (by first | ((repeat (first | exact List.mem_cons_self | refine List.mem_cons_of_mem _ ?_ | refine List.mem_append_right _ ?_)); done) | fail)) (by exact Try.sizeOf51) | fail "load 12.0") ?_
                refine Z.t 1 rfl rfl rfl (by rfl) (by kernel_rfl) ⟨_, hs, by first | (simp; done) | exact fun e he => List.mem_append_right _ he⟩ (Z.Yd.fieldA (m := 9) rfl (by kernel_rfl)) ?_
                refine Z.t 2 rfl rfl rfl (by rfl) (by kernel_rfl) ⟨_, hs, by first | (simp; done) | exact fun e he => List.mem_append_right _ he⟩ (by first | exact Z.Yd.load rfl Try.isAgg3 (fun _ => Z.cellB (by first | ((repeat (first | exact List.mem_cons_self | refine List.mem_cons_of_mem _ ?_ | refine List.mem_append_right _ ?_)); done) | fail) rfl) | exact Z.Yd.load rfl Try.isAgg3 (fun _ => Z.cellO (by assumption) (by simp) (by assumption)) | fail "load 12.2") ?_
                refine Z.tn 3 rfl rfl (by kernel_rfl) rfl trivial ?_
                first | refine Z.ZO.storeA rfl rfl hs rfl rfl (by kernel_rfl) (by first | (simp [Value.oneCell']; done) | (refine Z.all_one ?_; assumption)) (by first | exact SX.at0 | exact SX.at1 | exact SX.at2 | exact SX.at3 | exact SX.at4 | exact SX.at5 | exact Z.at6 | exact Z.at7 | exact Z.at8 | exact Z.at9 | exact Z.at10 | exact Z.at11 | exact Z.at12) (by rfl) ?_ | refine Z.ZO.storeP rfl rfl hs rfl rfl (by kernel_rfl) (by first | (simp [Value.oneCell']; done) | (refine Z.all_one ?_; assumption)) (by first | exact SX.at0 | exact SX.at1 | exact SX.at2 | exact SX.at3 | exact SX.at4 | exact SX.at5 | exact Z.at6 | exact Z.at7 | exact Z.at8 | exact Z.at9 | exact Z.at10 | exact Z.at11 | exact Z.at12) (by first | decide | (simp; done) | (simp; omega)) ?_ | refine Z.ZO.storePR rfl rfl hs rfl rfl (by kernel_rfl) (by first | (simp [Value.oneCell']; done) | (refine Z.all_one ?_; assumption)) (by first | exact SX.at0 | exact SX.at1 | exact SX.at2 | exact SX.at3 | exact SX.at4 | exact SX.at5 | exact Z.at6 | exact Z.at7 | exact Z.at8 | exact Z.at9 | exact Z.at10 | exact Z.at11 | exact Z.at12) (by first | decide | (simp; done) | (simp; omega)) ?_
                clear hs; intro ws hs
                simp only [Nat.zero_add, Nat.add_zero, Nat.reduceAdd, Int.reduceToNat, Nat.reduceMul, List.set_cons_zero, List.set_cons_succ, List.setIfInBounds_toArray] at hs
                try simp only [Z.putL, Nat.zero_add] at hs
                refine Z.tk (Dn := fun _ => true) (i := 3) (fun _ => ⟨_, hs, by first | (simp; done) | exact fun e he => List.mem_append_right _ he⟩) ?_
                refine Z.tb [4, 5] (by kernel_rfl) rfl ⟨_, hs, by first | (simp; done) | exact fun e he => List.mem_append_right _ he⟩ rfl ?_
                refine Z.td (by rfl) (by kernel_rfl) ?_
                refine Z.only [6, 7, 8] rfl ?_
                refine Z.nthen ?_
                refine Z.ret ?_
                -- ret#2
                refine Z.out3 (by exact ⟨⟨_, rfl, Z.rvcA hs Try.isAgg51 (by first | ((repeat (first | exact List.mem_cons_self | refine List.mem_cons_of_mem _ ?_ | refine List.mem_append_right _ ?_)); done) | fail) (by exact Try.sizeOf51)⟩, rfl, rfl, trivial⟩) ?_
                exact ⟨_, rfl, rfl, hs.sub (List.nil_sublist _)⟩
                )
          )
  · have e3 : sendV m t d = (m, 0, 2) := if_neg ht
    rw [e3]
    refine Z.enter Try.func44 rfl Try.ntmps44 rfl rfl ?_
    refine Z.seq ?_
    refine Z.region ?_
    refine Z.le rfl trivial ?_
    refine Z.ZO.box rfl rfl (by rfl) rfl rfl hs ?_
    clear hs; intro g3 w3 hs
    refine Z.le rfl trivial ?_
    refine Z.ZO.alloc rfl rfl (by rfl) Try.zeroValue51 rfl hs ?_
    clear hs; intro g6 w6 hs
    refine Z.lb 2 rfl ?_
    refine Z.lnil ?_
    refine Z.only [1, 2, 3, 6] rfl ?_
    refine Z.nthen ?_
    refine Z.seq ?_
    refine Z.region ?_
    refine Z.l rfl rfl (by rfl) (Z.keepS hs) (by first | exact Z.Yd.loadA _ rfl Try.isAgg51 (fun _ => Z.cellsB (by first | ((repeat (first | exact List.mem_cons_self | refine List.mem_cons_of_mem _ ?_ | refine List.mem_append_right _ ?_)); done) | fail)) (by exact Try.sizeOf51) | fail "load 1.0") ?_
    refine Z.lb 1 rfl ?_
    refine Z.le rfl trivial ?_
    refine Z.ZO.call rfl rfl (by rfl) rfl rfl Try.call47 rfl (acr_tick m t _ hm) ?_
    rintro v1_2 w1_2 ⟨rfl, hy⟩
    replace hs := hs.call hy
    clear hy
    try simp only [List.cons_append, List.nil_append, List.append_nil] at hs
    refine Z.lb 3 rfl ?_
    refine Z.le rfl trivial ?_
    refine Z.ZO.alloc rfl rfl (by rfl) Try.zeroValue51 rfl hs ?_
    clear hs; intro g9 w9 hs
    refine Z.le rfl trivial ?_
    first | refine Z.ZO.storeA rfl rfl hs rfl rfl (by kernel_rfl) (by first | (simp [Value.oneCell']; done) | (refine Z.all_one ?_; assumption)) (by first | exact SX.at0 | exact SX.at1 | exact SX.at2 | exact SX.at3 | exact SX.at4 | exact SX.at5 | exact Z.at6 | exact Z.at7 | exact Z.at8 | exact Z.at9 | exact Z.at10 | exact Z.at11 | exact Z.at12) (by rfl) ?_ | refine Z.ZO.storeP rfl rfl hs rfl rfl (by kernel_rfl) (by first | (simp [Value.oneCell']; done) | (refine Z.all_one ?_; assumption)) (by first | exact SX.at0 | exact SX.at1 | exact SX.at2 | exact SX.at3 | exact SX.at4 | exact SX.at5 | exact Z.at6 | exact Z.at7 | exact Z.at8 | exact Z.at9 | exact Z.at10 | exact Z.at11 | exact Z.at12) (by first | decide | (simp; done) | (simp; omega)) ?_ | refine Z.ZO.storePR rfl rfl hs rfl rfl (by kernel_rfl) (by first | (simp [Value.oneCell']; done) | (refine Z.all_one ?_; assumption)) (by first | exact SX.at0 | exact SX.at1 | exact SX.at2 | exact SX.at3 | exact SX.at4 | exact SX.at5 | exact Z.at6 | exact Z.at7 | exact Z.at8 | exact Z.at9 | exact Z.at10 | exact Z.at11 | exact Z.at12) (by first | decide | (simp; done) | (simp; omega)) ?_
    clear hs; intro ws hs
    simp only [Nat.zero_add, Nat.add_zero, Nat.reduceAdd, Int.reduceToNat, Nat.reduceMul, List.set_cons_zero, List.set_cons_succ, List.setIfInBounds_toArray] at hs
    try simp only [Z.putL, Nat.zero_add] at hs
    refine Z.lb 1 rfl ?_
    refine Z.lnil ?_
    refine Z.only [2, 3, 6, 9, 10] rfl ?_
    refine Z.nthen ?_
    refine Z.seq ?_
    refine Z.seq ?_
    refine Z.region ?_
    refine Z.lb 6 rfl ?_
    refine Z.lnil ?_
    refine Z.only [2, 3, 6, 9, 22] rfl ?_
    refine Z.nthen ?_
    refine Z.cond rfl (fun hc2 => ?_) (fun h => absurd h (by unfold tickE; split <;> simp <;> (have h0 : ¬ (0 ≤ d) := fun h => ht ⟨by assumption, h⟩; omega)))
    refine Z.seq ?_
    refine Z.region ?_
    refine Z.l rfl rfl (by rfl) (Z.keepS hs) (by first | exact Z.Yd.loadA _ rfl Try.isAgg51 (fun _ => Z.cellsB (by first | ((repeat (first | exact List.mem_cons_self | refine List.mem_cons_of_mem _ ?_ | refine List.mem_append_right _ ?_)); done) | fail)) (by exact Try.sizeOf51) | fail "load 3.0") ?_
    refine Z.le rfl trivial ?_
    first | refine Z.ZO.storeA rfl rfl hs rfl rfl (by kernel_rfl) (by first | (simp [Value.oneCell']; done) | (refine Z.all_one ?_; assumption)) (by first | exact SX.at0 | exact SX.at1 | exact SX.at2 | exact SX.at3 | exact SX.at4 | exact SX.at5 | exact Z.at6 | exact Z.at7 | exact Z.at8 | exact Z.at9 | exact Z.at10 | exact Z.at11 | exact Z.at12) (by rfl) ?_ | refine Z.ZO.storeP rfl rfl hs rfl rfl (by kernel_rfl) (by first | (simp [Value.oneCell']; done) | (refine Z.all_one ?_; assumption)) (by first | exact SX.at0 | exact SX.at1 | exact SX.at2 | exact SX.at3 | exact SX.at4 | exact SX.at5 | exact Z.at6 | exact Z.at7 | exact Z.at8 | exact Z.at9 | exact Z.at10 | exact Z.at11 | exact Z.at12) (by first | decide | (simp; done) | (simp; omega)) ?_ | refine Z.ZO.storePR rfl rfl hs rfl rfl (by kernel_rfl) (by first | (simp [Value.oneCell']; done) | (refine Z.all_one ?_; assumption)) (by first | exact SX.at0 | exact SX.at1 | exact SX.at2 | exact SX.at3 | exact SX.at4 | exact SX.at5 | exact Z.at6 | exact Z.at7 | exact Z.at8 | exact Z.at9 | exact Z.at10 | exact Z.at11 | exact Z.at12) (by first | decide | (simp; done) | (simp; omega)) ?_
    clear hs; intro ws hs
    simp only [Nat.zero_add, Nat.add_zero, Nat.reduceAdd, Int.reduceToNat, Nat.reduceMul, List.set_cons_zero, List.set_cons_succ, List.setIfInBounds_toArray] at hs
    try simp only [Z.putL, Nat.zero_add] at hs
    refine Z.lb 2 rfl ?_
    refine Z.lnil ?_
    refine Z.only [6, 7, 8] rfl ?_
    refine Z.nthen ?_
    refine Z.ret ?_
    repeat (first | refine Z.rthen ?_ | refine Z.rblock ?_ | refine Z.rscope ?_)
    -- ret#0
    refine Z.out3 (by exact ⟨⟨_, rfl, Z.rvcA hs Try.isAgg51 (by first | ((repeat (first | exact List.mem_cons_self | refine List.mem_cons_of_mem _ ?_ | refine List.mem_append_right _ ?_)); done) | fail) (by exact Try.sizeOf51)⟩, rfl, rfl, trivial⟩) ?_
    exact ⟨_, rfl, rfl, hs.sub (List.nil_sublist _)⟩
theorem acr_answer (m : AcV) (t p r k : Int) (w : World) (hm : m.ok) :
    Calls Try.prog 45 #[.agg m.cells.toArray, .int .i64 t, .agg #[.int .i64 p, .int .i64 r, .int .i64 k]] w (SX.Ret fun v w' => v = .tuple #[.agg (answerV m t p r k).1.cells.toArray, .bool (answerV m t p r k).2.1, .int .i64 (answerV m t p r k).2.2] ∧ SX.St w [] w' []) := by
  have hs := SX.St.start w
  show Calls Try.prog 45 #[.agg #[.int .u64 (m).id, .int .i64 (m).rnt, .int .i64 (m).win, .int .i64 (m).con, .int .i64 (m).max, .int .i64 (m).st, .int .i64 (m).now, .int .i64 (m).due, .int .i64 (m).frm, .int .i64 (m).pre, .int .i64 (m).att, .int .i64 (m).bnd, .int .i64 (m).rn], .int .i64 t, .agg #[.int .i64 p, .int .i64 r, .int .i64 k]] w _
  have hone := ac_one (tickR m t)
  by_cases ht : okT t ∧ okR p r k
  · have e1 : tickR m t = tickV m t := if_pos ht.1
    have e2 : tickE t = 0 := if_pos ht.1
    have e3 : answerV m t p r k = if (tickV m t).st = 2 ∧ (tickV m t).frm ≤ (tickV m t).now then (if p = (tickV m t).pre then (if r = 0 then (failV { tickV m t with bnd := k }, true, 0) else ({ tickV m t with rn := r, st := 3, due := (tickV m t).now + (tickV m t).con }, true, 0)) else (tickV m t, false, 0)) else (tickV m t, false, 8) := if_pos ht
    have hbk := hm.tick ht.1
    have hr := ht.2
    have hmb := hbk.bound (k := k) hr.2.2
    have hone2 := ac_one (failV { tickV m t with bnd := k })
    unfold okR at hr
    rw [e1] at hone
    rw [e3]
    obtain ⟨b, hb⟩ : ∃ b, b = tickV m t := ⟨_, rfl⟩
    rw [← hb] at hone e1 hbk hmb hone2 ⊢
    obtain ⟨h1, h2, h3, h4, h5, h6, h7, h8, h9, h10⟩ := hbk
    have h11 := h1.2.2.2.1
    refine Z.enter Try.func45 rfl Try.ntmps45 rfl rfl ?_
    refine Z.seq ?_
    refine Z.region ?_
    refine Z.le rfl trivial ?_
    refine Z.ZO.box rfl rfl (by rfl) rfl rfl hs ?_
    clear hs; intro g3 w3 hs
    refine Z.le rfl trivial ?_
    refine Z.ZO.box rfl rfl (by rfl) rfl rfl hs ?_
    clear hs; intro g5 w5 hs
    refine Z.le rfl trivial ?_
    refine Z.ZO.alloc rfl rfl (by rfl) Try.zeroValue51 rfl hs ?_
    clear hs; intro g6 w6 hs
    refine Z.lb 2 rfl ?_
    refine Z.lnil ?_
    refine Z.only [1, 3, 5, 6] rfl ?_
    refine Z.nthen ?_
    refine Z.seq ?_
    refine Z.region ?_
    refine Z.l rfl rfl (by rfl) (Z.keepS hs) (by first | exact Z.Yd.loadA _ rfl Try.isAgg51 (fun _ => Z.cellsB (by first | ((repeat (first | exact List.mem_cons_self | refine List.mem_cons_of_mem _ ?_ | refine List.mem_append_right _ ?_)); done) | fail)) (by exact Try.sizeOf51) | fail "load 1.0") ?_
    refine Z.lb 1 rfl ?_
    refine Z.le rfl trivial ?_
    refine Z.ZO.call rfl rfl (by rfl) rfl rfl Try.call47 rfl (acr_tick m t _ hm) ?_
    rintro v1_2 w1_2 ⟨rfl, hy⟩
    replace hs := hs.call hy
    clear hy
    try simp only [List.cons_append, List.nil_append, List.append_nil] at hs
    rw [e1, e2]
    refine Z.lb 3 rfl ?_
    refine Z.le rfl trivial ?_
    refine Z.ZO.alloc rfl rfl (by rfl) Try.zeroValue51 rfl hs ?_
    clear hs; intro g9 w9 hs
    refine Z.le rfl trivial ?_
    first | refine Z.ZO.storeA rfl rfl hs rfl rfl (by kernel_rfl) (by first | (simp [Value.oneCell']; done) | (refine Z.all_one ?_; assumption)) (by first | exact SX.at0 | exact SX.at1 | exact SX.at2 | exact SX.at3 | exact SX.at4 | exact SX.at5 | exact Z.at6 | exact Z.at7 | exact Z.at8 | exact Z.at9 | exact Z.at10 | exact Z.at11 | exact Z.at12) (by rfl) ?_ | refine Z.ZO.storeP rfl rfl hs rfl rfl (by kernel_rfl) (by first | (simp [Value.oneCell']; done) | (refine Z.all_one ?_; assumption)) (by first | exact SX.at0 | exact SX.at1 | exact SX.at2 | exact SX.at3 | exact SX.at4 | exact SX.at5 | exact Z.at6 | exact Z.at7 | exact Z.at8 | exact Z.at9 | exact Z.at10 | exact Z.at11 | exact Z.at12) (by first | decide | (simp; done) | (simp; omega)) ?_ | refine Z.ZO.storePR rfl rfl hs rfl rfl (by kernel_rfl) (by first | (simp [Value.oneCell']; done) | (refine Z.all_one ?_; assumption)) (by first | exact SX.at0 | exact SX.at1 | exact SX.at2 | exact SX.at3 | exact SX.at4 | exact SX.at5 | exact Z.at6 | exact Z.at7 | exact Z.at8 | exact Z.at9 | exact Z.at10 | exact Z.at11 | exact Z.at12) (by first | decide | (simp; done) | (simp; omega)) ?_
    clear hs; intro ws hs
    simp only [Nat.zero_add, Nat.add_zero, Nat.reduceAdd, Int.reduceToNat, Nat.reduceMul, List.set_cons_zero, List.set_cons_succ, List.setIfInBounds_toArray] at hs
    try simp only [Z.putL, Nat.zero_add] at hs
    refine Z.lb 1 rfl ?_
    refine Z.lnil ?_
    refine Z.only [3, 5, 6, 9, 10] rfl ?_
    refine Z.nthen ?_
    refine Z.seq ?_
    refine Z.seq ?_
    refine Z.region ?_
    replace hs : SX.St w [] _ [SX.Ent.blk g9 51 #[.int .u64 (b).id, .int .i64 (b).rnt, .int .i64 (b).win, .int .i64 (b).con, .int .i64 (b).max, .int .i64 (b).st, .int .i64 (b).now, .int .i64 (b).due, .int .i64 (b).frm, .int .i64 (b).pre, .int .i64 (b).att, .int .i64 (b).bnd, .int .i64 (b).rn], _, _, _] := hs
    refine Z.l rfl rfl (by rfl) (Z.keepS hs) (Z.Yd.pure rfl) ?_
    refine Z.lb 2 rfl ?_
    refine Z.yes (s := 19) (b := false) rfl (rfl) rfl ?_
    refine Z.l rfl rfl (by rfl) (Z.keepS hs) (Z.Yd.fieldA (m := 0) rfl (by kernel_rfl)) ?_
    refine Z.l rfl rfl (by rfl) (Z.keepS hs) (by first | exact Z.Yd.load rfl Try.isAgg3 (fun _ => Z.cellB (by first | ((repeat (first | exact List.mem_cons_self | refine List.mem_cons_of_mem _ ?_ | refine List.mem_append_right _ ?_)); done) | fail) rfl) | exact Z.Yd.load rfl Try.isAgg3 (fun _ => Z.cellO (by assumption) (by simp) (by assumption)) | fail "load 2.4") ?_
    refine Z.lb 1 rfl ?_
    refine Z.yes (s := 19) (b := false) rfl rfl rfl ?_
    refine Z.l rfl rfl (by rfl) (Z.keepS hs) (Z.Yd.pickF rfl rfl) ?_
    refine Z.lb 1 rfl ?_
    refine Z.yes (s := 24) (b := false) rfl ((by simp; omega)) rfl ?_
    refine Z.l rfl rfl (by rfl) (Z.keepS hs) (Z.Yd.fieldA (m := 0) rfl (by kernel_rfl)) ?_
    refine Z.l rfl rfl (by rfl) (Z.keepS hs) (by first | exact Z.Yd.load rfl Try.isAgg3 (fun _ => Z.cellB (by first | ((repeat (first | exact List.mem_cons_self | refine List.mem_cons_of_mem _ ?_ | refine List.mem_append_right _ ?_)); done) | fail) rfl) | exact Z.Yd.load rfl Try.isAgg3 (fun _ => Z.cellO (by assumption) (by simp) (by assumption)) | fail "load 2.9") ?_
    refine Z.lb 1 rfl ?_
    refine Z.yes (s := 24) (b := false) rfl rfl rfl ?_
    refine Z.l rfl rfl (by rfl) (Z.keepS hs) (Z.Yd.pickF rfl rfl) ?_
    refine Z.lb 1 rfl ?_
    refine Z.yes (s := 29) (b := false) rfl ((by simp; omega)) rfl ?_
    refine Z.l rfl rfl (by rfl) (Z.keepS hs) (Z.Yd.fieldA (m := 1) rfl (by kernel_rfl)) ?_
    refine Z.l rfl rfl (by rfl) (Z.keepS hs) (by first | exact Z.Yd.load rfl Try.isAgg3 (fun _ => Z.cellB (by first | ((repeat (first | exact List.mem_cons_self | refine List.mem_cons_of_mem _ ?_ | refine List.mem_append_right _ ?_)); done) | fail) rfl) | exact Z.Yd.load rfl Try.isAgg3 (fun _ => Z.cellO (by assumption) (by simp) (by assumption)) | fail "load 2.14") ?_
    refine Z.lb 1 rfl ?_
    refine Z.yes (s := 29) (b := false) rfl rfl rfl ?_
    refine Z.l rfl rfl (by rfl) (Z.keepS hs) (Z.Yd.pickF rfl rfl) ?_
    refine Z.lb 1 rfl ?_
    refine Z.yes (s := 34) (b := false) rfl ((by simp; omega)) rfl ?_
    refine Z.l rfl rfl (by rfl) (Z.keepS hs) (Z.Yd.fieldA (m := 1) rfl (by kernel_rfl)) ?_
    refine Z.l rfl rfl (by rfl) (Z.keepS hs) (by first | exact Z.Yd.load rfl Try.isAgg3 (fun _ => Z.cellB (by first | ((repeat (first | exact List.mem_cons_self | refine List.mem_cons_of_mem _ ?_ | refine List.mem_append_right _ ?_)); done) | fail) rfl) | exact Z.Yd.load rfl Try.isAgg3 (fun _ => Z.cellO (by assumption) (by simp) (by assumption)) | fail "load 2.19") ?_
    refine Z.lb 1 rfl ?_
    refine Z.yes (s := 34) (b := false) rfl rfl rfl ?_
    refine Z.l rfl rfl (by rfl) (Z.keepS hs) (Z.Yd.pickF rfl rfl) ?_
    refine Z.lb 1 rfl ?_
    refine Z.yes (s := 39) (b := false) rfl ((by simp; omega)) rfl ?_
    refine Z.l rfl rfl (by rfl) (Z.keepS hs) (Z.Yd.fieldA (m := 2) rfl (by kernel_rfl)) ?_
    refine Z.l rfl rfl (by rfl) (Z.keepS hs) (by first | exact Z.Yd.load rfl Try.isAgg3 (fun _ => Z.cellB (by first | ((repeat (first | exact List.mem_cons_self | refine List.mem_cons_of_mem _ ?_ | refine List.mem_append_right _ ?_)); done) | fail) rfl) | exact Z.Yd.load rfl Try.isAgg3 (fun _ => Z.cellO (by assumption) (by simp) (by assumption)) | fail "load 2.24") ?_
    refine Z.lb 1 rfl ?_
    refine Z.yes (s := 39) (b := false) rfl rfl rfl ?_
    refine Z.l rfl rfl (by rfl) (Z.keepS hs) (Z.Yd.pickF rfl rfl) ?_
    refine Z.lb 1 rfl ?_
    refine Z.yes (s := 44) (b := false) rfl ((by simp; omega)) rfl ?_
    refine Z.l rfl rfl (by rfl) (Z.keepS hs) (Z.Yd.fieldA (m := 2) rfl (by kernel_rfl)) ?_
    refine Z.l rfl rfl (by rfl) (Z.keepS hs) (by first | exact Z.Yd.load rfl Try.isAgg3 (fun _ => Z.cellB (by first | ((repeat (first | exact List.mem_cons_self | refine List.mem_cons_of_mem _ ?_ | refine List.mem_append_right _ ?_)); done) | fail) rfl) | exact Z.Yd.load rfl Try.isAgg3 (fun _ => Z.cellO (by assumption) (by simp) (by assumption)) | fail "load 2.29") ?_
    refine Z.lb 1 rfl ?_
    refine Z.yes (s := 44) (b := false) rfl rfl rfl ?_
    refine Z.l rfl rfl (by rfl) (Z.keepS hs) (Z.Yd.pickF rfl rfl) ?_
    refine Z.lnil ?_
    refine Z.only [3, 5, 6, 9, 48] rfl ?_
    refine Z.nthen ?_
    refine Z.cond rfl (fun h => absurd h (by simp; omega)) (fun hc2 => ?_)
    refine Z.skip ?_
    refine Z.nthen ?_
    refine Z.seq ?_
    refine Z.seq ?_
    refine Z.region ?_
    refine Z.l rfl rfl (by rfl) (Z.keepS hs) (Z.Yd.fieldA (m := 5) rfl (by kernel_rfl)) ?_
    refine Z.l rfl rfl (by rfl) (Z.keepS hs) (by first | exact Z.Yd.load rfl Try.isAgg44 (fun _ => Z.cellB (by first | ((repeat (first | exact List.mem_cons_self | refine List.mem_cons_of_mem _ ?_ | refine List.mem_append_right _ ?_)); done) | fail) rfl) | exact Z.Yd.load rfl Try.isAgg44 (fun _ => Z.cellO (by assumption) (by simp) (by assumption)) | fail "load 4.1") ?_
    refine Z.lb 2 rfl ?_
    refine Z.l rfl rfl (by rfl) (Z.keepS hs) (Z.Yd.fieldA (m := 6) rfl (by kernel_rfl)) ?_
    refine Z.l rfl rfl (by rfl) (Z.keepS hs) (by first | exact Z.Yd.load rfl Try.isAgg3 (fun _ => Z.cellB (by first | ((repeat (first | exact List.mem_cons_self | refine List.mem_cons_of_mem _ ?_ | refine List.mem_append_right _ ?_)); done) | fail) rfl) | exact Z.Yd.load rfl Try.isAgg3 (fun _ => Z.cellO (by assumption) (by simp) (by assumption)) | fail "load 4.5") ?_
    refine Z.l rfl rfl (by rfl) (Z.keepS hs) (Z.Yd.fieldA (m := 8) rfl (by kernel_rfl)) ?_
    refine Z.l rfl rfl (by rfl) (Z.keepS hs) (by first | exact Z.Yd.load rfl Try.isAgg3 (fun _ => Z.cellB (by first | ((repeat (first | exact List.mem_cons_self | refine List.mem_cons_of_mem _ ?_ | refine List.mem_append_right _ ?_)); done) | fail) rfl) | exact Z.Yd.load rfl Try.isAgg3 (fun _ => Z.cellO (by assumption) (by simp) (by assumption)) | fail "load 4.7") ?_
    refine Z.lb 2 rfl ?_
    refine Z.lnil ?_
    refine Z.only [5, 6, 9, 59] rfl ?_
    refine Z.nthen ?_
    refine Z.cond rfl (fun hc4 => ?_) (fun hc4 => ?_)
    · first
        | (exfalso; simp at hc4 <;> omega)
        | (
          (try simp at hc4)
          rw [if_neg (by omega)]
          refine Z.seq ?_
          refine Z.region ?_
          refine Z.l rfl rfl (by rfl) (Z.keepS hs) (by first | exact Z.Yd.loadA _ rfl Try.isAgg51 (fun _ => Z.cellsB (by first | ((repeat (first | exact List.mem_cons_self | refine List.mem_cons_of_mem _ ?_ | refine List.mem_append_right _ ?_)); done) | fail)) (by exact Try.sizeOf51) | fail "load 5.0") ?_
          refine Z.le rfl trivial ?_
          first | refine Z.ZO.storeA rfl rfl hs rfl rfl (by kernel_rfl) (by first | (simp [Value.oneCell']; done) | (refine Z.all_one ?_; assumption)) (by first | exact SX.at0 | exact SX.at1 | exact SX.at2 | exact SX.at3 | exact SX.at4 | exact SX.at5 | exact Z.at6 | exact Z.at7 | exact Z.at8 | exact Z.at9 | exact Z.at10 | exact Z.at11 | exact Z.at12) (by rfl) ?_ | refine Z.ZO.storeP rfl rfl hs rfl rfl (by kernel_rfl) (by first | (simp [Value.oneCell']; done) | (refine Z.all_one ?_; assumption)) (by first | exact SX.at0 | exact SX.at1 | exact SX.at2 | exact SX.at3 | exact SX.at4 | exact SX.at5 | exact Z.at6 | exact Z.at7 | exact Z.at8 | exact Z.at9 | exact Z.at10 | exact Z.at11 | exact Z.at12) (by first | decide | (simp; done) | (simp; omega)) ?_ | refine Z.ZO.storePR rfl rfl hs rfl rfl (by kernel_rfl) (by first | (simp [Value.oneCell']; done) | (refine Z.all_one ?_; assumption)) (by first | exact SX.at0 | exact SX.at1 | exact SX.at2 | exact SX.at3 | exact SX.at4 | exact SX.at5 | exact Z.at6 | exact Z.at7 | exact Z.at8 | exact Z.at9 | exact Z.at10 | exact Z.at11 | exact Z.at12) (by first | decide | (simp; done) | (simp; omega)) ?_
          clear hs; intro ws hs
          simp only [Nat.zero_add, Nat.add_zero, Nat.reduceAdd, Int.reduceToNat, Nat.reduceMul, List.set_cons_zero, List.set_cons_succ, List.setIfInBounds_toArray] at hs
          try simp only [Z.putL, Nat.zero_add] at hs
          refine Z.lb 2 rfl ?_
          refine Z.lnil ?_
          refine Z.only [6, 7, 8] rfl ?_
          refine Z.nthen ?_
          refine Z.ret ?_
          repeat (first | refine Z.rthen ?_ | refine Z.rblock ?_ | refine Z.rscope ?_)
          -- ret#0
          refine Z.out3 (by exact ⟨⟨_, rfl, Z.rvcA hs Try.isAgg51 (by first | ((repeat (first | exact List.mem_cons_self | refine List.mem_cons_of_mem _ ?_ | refine List.mem_append_right _ ?_)); done) | fail) (by exact Try.sizeOf51)⟩, rfl, rfl, trivial⟩) ?_
          exact ⟨_, rfl, rfl, hs.sub (List.nil_sublist _)⟩
          )
    · first
        | (exfalso; simp at hc4 <;> omega)
        | (
          (try simp at hc4)
          rw [if_pos (by omega)]
          refine Z.skip ?_
          refine Z.nthen ?_
          refine Z.seq ?_
          refine Z.seq ?_
          refine Z.region ?_
          refine Z.l rfl rfl (by rfl) (Z.keepS hs) (Z.Yd.fieldA (m := 0) rfl (by kernel_rfl)) ?_
          refine Z.l rfl rfl (by rfl) (Z.keepS hs) (by first | exact Z.Yd.load rfl Try.isAgg3 (fun _ => Z.cellB (by first | ((repeat (first | exact List.mem_cons_self | refine List.mem_cons_of_mem _ ?_ | refine List.mem_append_right _ ?_)); done) | fail) rfl) | exact Z.Yd.load rfl Try.isAgg3 (fun _ => Z.cellO (by assumption) (by simp) (by assumption)) | fail "load 6.1") ?_
          refine Z.l rfl rfl (by rfl) (Z.keepS hs) (Z.Yd.fieldA (m := 9) rfl (by kernel_rfl)) ?_
          refine Z.l rfl rfl (by rfl) (Z.keepS hs) (by first | exact Z.Yd.load rfl Try.isAgg3 (fun _ => Z.cellB (by first | ((repeat (first | exact List.mem_cons_self | refine List.mem_cons_of_mem _ ?_ | refine List.mem_append_right _ ?_)); done) | fail) rfl) | exact Z.Yd.load rfl Try.isAgg3 (fun _ => Z.cellO (by assumption) (by simp) (by assumption)) | fail "load 6.3") ?_
          refine Z.lb 1 rfl ?_
          refine Z.lnil ?_
          refine Z.only [5, 6, 9, 65] rfl ?_
          refine Z.nthen ?_
          refine Z.cond rfl (fun hc6 => ?_) (fun hc6 => ?_)
          · first
              | (exfalso; simp at hc6 <;> omega)
              | (
                (try simp at hc6)
                rw [if_neg (by assumption)]
                refine Z.seq ?_
                refine Z.region ?_
                refine Z.l rfl rfl (by rfl) (Z.keepS hs) (by first | exact Z.Yd.loadA _ rfl Try.isAgg51 (fun _ => Z.cellsB (by first | ((repeat (first | exact List.mem_cons_self | refine List.mem_cons_of_mem _ ?_ | refine List.mem_append_right _ ?_)); done) | fail)) (by exact Try.sizeOf51) | fail "load 7.0") ?_
                refine Z.le rfl trivial ?_
                first | refine Z.ZO.storeA rfl rfl hs rfl rfl (by kernel_rfl) (by first | (simp [Value.oneCell']; done) | (refine Z.all_one ?_; assumption)) (by first | exact SX.at0 | exact SX.at1 | exact SX.at2 | exact SX.at3 | exact SX.at4 | exact SX.at5 | exact Z.at6 | exact Z.at7 | exact Z.at8 | exact Z.at9 | exact Z.at10 | exact Z.at11 | exact Z.at12) (by rfl) ?_ | refine Z.ZO.storeP rfl rfl hs rfl rfl (by kernel_rfl) (by first | (simp [Value.oneCell']; done) | (refine Z.all_one ?_; assumption)) (by first | exact SX.at0 | exact SX.at1 | exact SX.at2 | exact SX.at3 | exact SX.at4 | exact SX.at5 | exact Z.at6 | exact Z.at7 | exact Z.at8 | exact Z.at9 | exact Z.at10 | exact Z.at11 | exact Z.at12) (by first | decide | (simp; done) | (simp; omega)) ?_ | refine Z.ZO.storePR rfl rfl hs rfl rfl (by kernel_rfl) (by first | (simp [Value.oneCell']; done) | (refine Z.all_one ?_; assumption)) (by first | exact SX.at0 | exact SX.at1 | exact SX.at2 | exact SX.at3 | exact SX.at4 | exact SX.at5 | exact Z.at6 | exact Z.at7 | exact Z.at8 | exact Z.at9 | exact Z.at10 | exact Z.at11 | exact Z.at12) (by first | decide | (simp; done) | (simp; omega)) ?_
                clear hs; intro ws hs
                simp only [Nat.zero_add, Nat.add_zero, Nat.reduceAdd, Int.reduceToNat, Nat.reduceMul, List.set_cons_zero, List.set_cons_succ, List.setIfInBounds_toArray] at hs
                try simp only [Z.putL, Nat.zero_add] at hs
                refine Z.lb 2 rfl ?_
                refine Z.lnil ?_
                refine Z.only [6, 7, 8] rfl ?_
                refine Z.nthen ?_
                refine Z.ret ?_
                repeat (first | refine Z.rthen ?_ | refine Z.rblock ?_ | refine Z.rscope ?_)
                -- ret#1
                refine Z.out3 (by exact ⟨⟨_, rfl, Z.rvcA hs Try.isAgg51 (by first | ((repeat (first | exact List.mem_cons_self | refine List.mem_cons_of_mem _ ?_ | refine List.mem_append_right _ ?_)); done) | fail) (by exact Try.sizeOf51)⟩, rfl, rfl, trivial⟩) ?_
                exact ⟨_, rfl, rfl, hs.sub (List.nil_sublist _)⟩
                )
          · first
              | (exfalso; simp at hc6 <;> omega)
              | (
                (try simp at hc6)
                rw [if_pos (by assumption)]
                refine Z.skip ?_
                refine Z.nthen ?_
                refine Z.seq ?_
                refine Z.seq ?_
                refine Z.region ?_
                refine Z.l rfl rfl (by rfl) (Z.keepS hs) (Z.Yd.fieldA (m := 1) rfl (by kernel_rfl)) ?_
                refine Z.l rfl rfl (by rfl) (Z.keepS hs) (by first | exact Z.Yd.load rfl Try.isAgg3 (fun _ => Z.cellB (by first | ((repeat (first | exact List.mem_cons_self | refine List.mem_cons_of_mem _ ?_ | refine List.mem_append_right _ ?_)); done) | fail) rfl) | exact Z.Yd.load rfl Try.isAgg3 (fun _ => Z.cellO (by assumption) (by simp) (by assumption)) | fail "load 8.1") ?_
                refine Z.lb 1 rfl ?_
                refine Z.lnil ?_
                refine Z.only [5, 6, 9, 69] rfl ?_
                refine Z.nthen ?_
                refine Z.cond rfl (fun hc8 => ?_) (fun hc8 => ?_)
                · first
                    | (exfalso; simp at hc8 <;> omega)
                    | (
                      (try simp at hc8)
                      rw [if_pos (by assumption)]
                      refine Z.seq ?_
                      refine Z.region ?_
                      refine Z.l rfl rfl (by rfl) (Z.keepS hs) (Z.Yd.fieldA (m := 2) rfl (by kernel_rfl)) ?_
                      refine Z.l rfl rfl (by rfl) (Z.keepS hs) (by first | exact Z.Yd.load rfl Try.isAgg3 (fun _ => Z.cellB (by first | ((repeat (first | exact List.mem_cons_self | refine List.mem_cons_of_mem _ ?_ | refine List.mem_append_right _ ?_)); done) | fail) rfl) | exact Z.Yd.load rfl Try.isAgg3 (fun _ => Z.cellO (by assumption) (by simp) (by assumption)) | fail "load 9.1") ?_
                      refine Z.l rfl rfl (by rfl) (Z.keepS hs) (Z.Yd.fieldA (m := 11) rfl (by kernel_rfl)) ?_
                      refine Z.le rfl trivial ?_
                      first | refine Z.ZO.store rfl rfl hs Try.sizeOf3 rfl rfl rfl (by first | exact SX.at0 | exact SX.at1 | exact SX.at2 | exact SX.at3 | exact SX.at4 | exact SX.at5 | exact Z.at6 | exact Z.at7 | exact Z.at8 | exact Z.at9 | exact Z.at10 | exact Z.at11 | exact Z.at12) (by first | (simp; done) | (simp; omega)) ?_ | refine Z.ZO.storeR rfl rfl hs Try.sizeOf3 rfl rfl rfl (by first | exact SX.at0 | exact SX.at1 | exact SX.at2 | exact SX.at3 | exact SX.at4 | exact SX.at5 | exact Z.at6 | exact Z.at7 | exact Z.at8 | exact Z.at9 | exact Z.at10 | exact Z.at11 | exact Z.at12) (by first | omega | (simp [ints_length]; done) | (simp [ints_length]; omega)) ?_
                      clear hs; intro ws hs
                      simp only [Nat.zero_add, Nat.add_zero, Nat.reduceAdd, Int.reduceToNat, Nat.reduceMul, List.set_cons_zero, List.set_cons_succ, List.setIfInBounds_toArray] at hs
                      refine Z.lnil ?_
                      refine Z.only [6, 9] rfl ?_
                      refine Z.nthen ?_
                      refine Z.seq ?_
                      refine Z.region ?_
                      refine Z.l rfl rfl (by rfl) (Z.keepS hs) (by first | exact Z.Yd.loadA _ rfl Try.isAgg51 (fun _ => Z.cellsB (by first | ((repeat (first | exact List.mem_cons_self | refine List.mem_cons_of_mem _ ?_ | refine List.mem_append_right _ ?_)); done) | fail)) (by exact Try.sizeOf51) | fail "load 10.0") ?_
                      refine Z.le rfl trivial ?_
                      refine Z.ZO.call rfl rfl (by rfl) rfl rfl Try.call58 rfl (acr_fail { b with bnd := k } _ hmb) ?_
                      rintro v10_1 w10_1 ⟨rfl, hy⟩
                      replace hs := hs.call hy
                      clear hy
                      try simp only [List.cons_append, List.nil_append, List.append_nil] at hs
                      refine Z.le rfl trivial ?_
                      first | refine Z.ZO.storeA rfl rfl hs rfl rfl (by kernel_rfl) (by first | (simp [Value.oneCell']; done) | (refine Z.all_one ?_; assumption)) (by first | exact SX.at0 | exact SX.at1 | exact SX.at2 | exact SX.at3 | exact SX.at4 | exact SX.at5 | exact Z.at6 | exact Z.at7 | exact Z.at8 | exact Z.at9 | exact Z.at10 | exact Z.at11 | exact Z.at12) (by rfl) ?_ | refine Z.ZO.storeP rfl rfl hs rfl rfl (by kernel_rfl) (by first | (simp [Value.oneCell']; done) | (refine Z.all_one ?_; assumption)) (by first | exact SX.at0 | exact SX.at1 | exact SX.at2 | exact SX.at3 | exact SX.at4 | exact SX.at5 | exact Z.at6 | exact Z.at7 | exact Z.at8 | exact Z.at9 | exact Z.at10 | exact Z.at11 | exact Z.at12) (by first | decide | (simp; done) | (simp; omega)) ?_ | refine Z.ZO.storePR rfl rfl hs rfl rfl (by kernel_rfl) (by first | (simp [Value.oneCell']; done) | (refine Z.all_one ?_; assumption)) (by first | exact SX.at0 | exact SX.at1 | exact SX.at2 | exact SX.at3 | exact SX.at4 | exact SX.at5 | exact Z.at6 | exact Z.at7 | exact Z.at8 | exact Z.at9 | exact Z.at10 | exact Z.at11 | exact Z.at12) (by first | decide | (simp; done) | (simp; omega)) ?_
                      clear hs; intro ws hs
                      simp only [Nat.zero_add, Nat.add_zero, Nat.reduceAdd, Int.reduceToNat, Nat.reduceMul, List.set_cons_zero, List.set_cons_succ, List.setIfInBounds_toArray] at hs
                      try simp only [Z.putL, Nat.zero_add] at hs
                      refine Z.lb 2 rfl ?_
                      refine Z.lnil ?_
                      refine Z.only [6, 7, 8] rfl ?_
                      refine Z.nthen ?_
                      refine Z.ret ?_
                      repeat (first | refine Z.rthen ?_ | refine Z.rblock ?_ | refine Z.rscope ?_)
                      -- ret#2
                      refine Z.out3 (by exact ⟨⟨_, rfl, Z.rvcA hs Try.isAgg51 (by first | ((repeat (first | exact List.mem_cons_self | refine List.mem_cons_of_mem _ ?_ | refine List.mem_append_right _ ?_)); done) | fail) (by exact Try.sizeOf51)⟩, rfl, rfl, trivial⟩) ?_
                      exact ⟨_, rfl, rfl, hs.sub (List.nil_sublist _)⟩
                      )
                · first
                    | (exfalso; simp at hc8 <;> omega)
                    | (
                      (try simp at hc8)
                      rw [if_neg (by assumption)]
                      refine Z.skip ?_
                      refine Z.nthen ?_
                      refine Z.seq ?_
                      refine Z.region ?_
                      refine Z.l rfl rfl (by rfl) (Z.keepS hs) (Z.Yd.fieldA (m := 1) rfl (by kernel_rfl)) ?_
                      refine Z.l rfl rfl (by rfl) (Z.keepS hs) (by first | exact Z.Yd.load rfl Try.isAgg3 (fun _ => Z.cellB (by first | ((repeat (first | exact List.mem_cons_self | refine List.mem_cons_of_mem _ ?_ | refine List.mem_append_right _ ?_)); done) | fail) rfl) | exact Z.Yd.load rfl Try.isAgg3 (fun _ => Z.cellO (by assumption) (by simp) (by assumption)) | fail "load 11.1") ?_
                      refine Z.l rfl rfl (by rfl) (Z.keepS hs) (Z.Yd.fieldA (m := 12) rfl (by kernel_rfl)) ?_
                      refine Z.le rfl trivial ?_
                      first | refine Z.ZO.store rfl rfl hs Try.sizeOf3 rfl rfl rfl (by first | exact SX.at0 | exact SX.at1 | exact SX.at2 | exact SX.at3 | exact SX.at4 | exact SX.at5 | exact Z.at6 | exact Z.at7 | exact Z.at8 | exact Z.at9 | exact Z.at10 | exact Z.at11 | exact Z.at12) (by first | (simp; done) | (simp; omega)) ?_ | refine Z.ZO.storeR rfl rfl hs Try.sizeOf3 rfl rfl rfl (by first | exact SX.at0 | exact SX.at1 | exact SX.at2 | exact SX.at3 | exact SX.at4 | exact SX.at5 | exact Z.at6 | exact Z.at7 | exact Z.at8 | exact Z.at9 | exact Z.at10 | exact Z.at11 | exact Z.at12) (by first | omega | (simp [ints_length]; done) | (simp [ints_length]; omega)) ?_
                      clear hs; intro ws hs
                      simp only [Nat.zero_add, Nat.add_zero, Nat.reduceAdd, Int.reduceToNat, Nat.reduceMul, List.set_cons_zero, List.set_cons_succ, List.setIfInBounds_toArray] at hs
                      refine Z.lnil ?_
                      refine Z.only [6, 9] rfl ?_
                      refine Z.nthen ?_
                      refine Z.seq ?_
                      refine Z.region ?_
                      refine Z.l rfl rfl (by rfl) (Z.keepS hs) (Z.Yd.fieldA (m := 6) rfl (by kernel_rfl)) ?_
                      refine Z.l rfl rfl (by rfl) (Z.keepS hs) (by first | exact Z.Yd.load rfl Try.isAgg3 (fun _ => Z.cellB (by first | ((repeat (first | exact List.mem_cons_self | refine List.mem_cons_of_mem _ ?_ | refine List.mem_append_right _ ?_)); done) | fail) rfl) | exact Z.Yd.load rfl Try.isAgg3 (fun _ => Z.cellO (by assumption) (by simp) (by assumption)) | fail "load 12.1") ?_
                      refine Z.l rfl rfl (by rfl) (Z.keepS hs) (Z.Yd.fieldA (m := 0) rfl (by kernel_rfl)) ?_
                      refine Z.l rfl rfl (by rfl) (Z.keepS hs) (Z.Yd.fieldA (m := 3) rfl (by kernel_rfl)) ?_
                      refine Z.l rfl rfl (by rfl) (Z.keepS hs) (by first | exact Z.Yd.load rfl Try.isAgg3 (fun _ => Z.cellB (by first | ((repeat (first | exact List.mem_cons_self | refine List.mem_cons_of_mem _ ?_ | refine List.mem_append_right _ ?_)); done) | fail) rfl) | exact Z.Yd.load rfl Try.isAgg3 (fun _ => Z.cellO (by assumption) (by simp) (by assumption)) | fail "load 12.4") ?_
                      refine Z.l rfl rfl (by rfl) (Z.keepS hs) (Z.Yd.add rfl rfl (fun hG => Z.wi64 (by first | omega | (have hG' := Z.gh rfl hG; simp at hG'; omega)))) ?_
                      refine Z.l rfl rfl (by rfl) (Z.keepS hs) (Z.Yd.fieldA (m := 5) rfl (by kernel_rfl)) ?_
                      refine Z.le rfl trivial ?_
                      first | refine Z.ZO.store rfl rfl hs Try.sizeOf44 rfl rfl rfl (by first | exact SX.at0 | exact SX.at1 | exact SX.at2 | exact SX.at3 | exact SX.at4 | exact SX.at5 | exact Z.at6 | exact Z.at7 | exact Z.at8 | exact Z.at9 | exact Z.at10 | exact Z.at11 | exact Z.at12) (by first | (simp; done) | (simp; omega)) ?_ | refine Z.ZO.storeR rfl rfl hs Try.sizeOf44 rfl rfl rfl (by first | exact SX.at0 | exact SX.at1 | exact SX.at2 | exact SX.at3 | exact SX.at4 | exact SX.at5 | exact Z.at6 | exact Z.at7 | exact Z.at8 | exact Z.at9 | exact Z.at10 | exact Z.at11 | exact Z.at12) (by first | omega | (simp [ints_length]; done) | (simp [ints_length]; omega)) ?_
                      clear hs; intro ws hs
                      simp only [Nat.zero_add, Nat.add_zero, Nat.reduceAdd, Int.reduceToNat, Nat.reduceMul, List.set_cons_zero, List.set_cons_succ, List.setIfInBounds_toArray] at hs
                      refine Z.l rfl rfl (by rfl) (Z.keepS hs) (Z.Yd.fieldA (m := 7) rfl (by kernel_rfl)) ?_
                      refine Z.le rfl trivial ?_
                      first | refine Z.ZO.store rfl rfl hs Try.sizeOf3 rfl rfl rfl (by first | exact SX.at0 | exact SX.at1 | exact SX.at2 | exact SX.at3 | exact SX.at4 | exact SX.at5 | exact Z.at6 | exact Z.at7 | exact Z.at8 | exact Z.at9 | exact Z.at10 | exact Z.at11 | exact Z.at12) (by first | (simp; done) | (simp; omega)) ?_ | refine Z.ZO.storeR rfl rfl hs Try.sizeOf3 rfl rfl rfl (by first | exact SX.at0 | exact SX.at1 | exact SX.at2 | exact SX.at3 | exact SX.at4 | exact SX.at5 | exact Z.at6 | exact Z.at7 | exact Z.at8 | exact Z.at9 | exact Z.at10 | exact Z.at11 | exact Z.at12) (by first | omega | (simp [ints_length]; done) | (simp [ints_length]; omega)) ?_
                      clear hs; intro ws hs
                      simp only [Nat.zero_add, Nat.add_zero, Nat.reduceAdd, Int.reduceToNat, Nat.reduceMul, List.set_cons_zero, List.set_cons_succ, List.setIfInBounds_toArray] at hs
                      refine Z.lnil ?_
                      refine Z.only [6, 9] rfl ?_
                      refine Z.nthen ?_
                      refine Z.seq ?_
                      refine Z.region ?_
                      refine Z.l rfl rfl (by rfl) (Z.keepS hs) (by first | exact Z.Yd.loadA _ rfl Try.isAgg51 (fun _ => Z.cellsB (by first | ((repeat (first | exact List.mem_cons_self | refine List.mem_cons_of_mem _ ?_ | refine List.mem_append_right _ ?_)); done) | fail)) (by exact Try.sizeOf51) | fail "load 13.0") ?_
                      refine Z.le rfl trivial ?_
                      first | refine Z.ZO.storeA rfl rfl hs rfl rfl (by kernel_rfl) (by first | (simp [Value.oneCell']; done) | (refine Z.all_one ?_; assumption)) (by first | exact SX.at0 | exact SX.at1 | exact SX.at2 | exact SX.at3 | exact SX.at4 | exact SX.at5 | exact Z.at6 | exact Z.at7 | exact Z.at8 | exact Z.at9 | exact Z.at10 | exact Z.at11 | exact Z.at12) (by rfl) ?_ | refine Z.ZO.storeP rfl rfl hs rfl rfl (by kernel_rfl) (by first | (simp [Value.oneCell']; done) | (refine Z.all_one ?_; assumption)) (by first | exact SX.at0 | exact SX.at1 | exact SX.at2 | exact SX.at3 | exact SX.at4 | exact SX.at5 | exact Z.at6 | exact Z.at7 | exact Z.at8 | exact Z.at9 | exact Z.at10 | exact Z.at11 | exact Z.at12) (by first | decide | (simp; done) | (simp; omega)) ?_ | refine Z.ZO.storePR rfl rfl hs rfl rfl (by kernel_rfl) (by first | (simp [Value.oneCell']; done) | (refine Z.all_one ?_; assumption)) (by first | exact SX.at0 | exact SX.at1 | exact SX.at2 | exact SX.at3 | exact SX.at4 | exact SX.at5 | exact Z.at6 | exact Z.at7 | exact Z.at8 | exact Z.at9 | exact Z.at10 | exact Z.at11 | exact Z.at12) (by first | decide | (simp; done) | (simp; omega)) ?_
                      clear hs; intro ws hs
                      simp only [Nat.zero_add, Nat.add_zero, Nat.reduceAdd, Int.reduceToNat, Nat.reduceMul, List.set_cons_zero, List.set_cons_succ, List.setIfInBounds_toArray] at hs
                      try simp only [Z.putL, Nat.zero_add] at hs
                      refine Z.lb 2 rfl ?_
                      refine Z.lnil ?_
                      refine Z.only [6, 7, 8] rfl ?_
                      refine Z.nthen ?_
                      refine Z.ret ?_
                      -- ret#3
                      refine Z.out3 (by exact ⟨⟨_, rfl, Z.rvcA hs Try.isAgg51 (by first | ((repeat (first | exact List.mem_cons_self | refine List.mem_cons_of_mem _ ?_ | refine List.mem_append_right _ ?_)); done) | fail) (by exact Try.sizeOf51)⟩, rfl, rfl, trivial⟩) ?_
                      exact ⟨_, rfl, rfl, hs.sub (List.nil_sublist _)⟩
                      )
                )
          )
  · have e3 : answerV m t p r k = (m, false, 2) := if_neg ht
    rw [e3]
    refine Z.enter Try.func45 rfl Try.ntmps45 rfl rfl ?_
    refine Z.seq ?_
    refine Z.region ?_
    refine Z.le rfl trivial ?_
    refine Z.ZO.box rfl rfl (by rfl) rfl rfl hs ?_
    clear hs; intro g3 w3 hs
    refine Z.le rfl trivial ?_
    refine Z.ZO.box rfl rfl (by rfl) rfl rfl hs ?_
    clear hs; intro g5 w5 hs
    refine Z.le rfl trivial ?_
    refine Z.ZO.alloc rfl rfl (by rfl) Try.zeroValue51 rfl hs ?_
    clear hs; intro g6 w6 hs
    refine Z.lb 2 rfl ?_
    refine Z.lnil ?_
    refine Z.only [1, 3, 5, 6] rfl ?_
    refine Z.nthen ?_
    refine Z.seq ?_
    refine Z.region ?_
    refine Z.l rfl rfl (by rfl) (Z.keepS hs) (by first | exact Z.Yd.loadA _ rfl Try.isAgg51 (fun _ => Z.cellsB (by first | ((repeat (first | exact List.mem_cons_self | refine List.mem_cons_of_mem _ ?_ | refine List.mem_append_right _ ?_)); done) | fail)) (by exact Try.sizeOf51) | fail "load 1.0") ?_
    refine Z.lb 1 rfl ?_
    refine Z.le rfl trivial ?_
    refine Z.ZO.call rfl rfl (by rfl) rfl rfl Try.call47 rfl (acr_tick m t _ hm) ?_
    rintro v1_2 w1_2 ⟨rfl, hy⟩
    replace hs := hs.call hy
    clear hy
    try simp only [List.cons_append, List.nil_append, List.append_nil] at hs
    refine Z.lb 3 rfl ?_
    refine Z.le rfl trivial ?_
    refine Z.ZO.alloc rfl rfl (by rfl) Try.zeroValue51 rfl hs ?_
    clear hs; intro g9 w9 hs
    refine Z.le rfl trivial ?_
    first | refine Z.ZO.storeA rfl rfl hs rfl rfl (by kernel_rfl) (by first | (simp [Value.oneCell']; done) | (refine Z.all_one ?_; assumption)) (by first | exact SX.at0 | exact SX.at1 | exact SX.at2 | exact SX.at3 | exact SX.at4 | exact SX.at5 | exact Z.at6 | exact Z.at7 | exact Z.at8 | exact Z.at9 | exact Z.at10 | exact Z.at11 | exact Z.at12) (by rfl) ?_ | refine Z.ZO.storeP rfl rfl hs rfl rfl (by kernel_rfl) (by first | (simp [Value.oneCell']; done) | (refine Z.all_one ?_; assumption)) (by first | exact SX.at0 | exact SX.at1 | exact SX.at2 | exact SX.at3 | exact SX.at4 | exact SX.at5 | exact Z.at6 | exact Z.at7 | exact Z.at8 | exact Z.at9 | exact Z.at10 | exact Z.at11 | exact Z.at12) (by first | decide | (simp; done) | (simp; omega)) ?_ | refine Z.ZO.storePR rfl rfl hs rfl rfl (by kernel_rfl) (by first | (simp [Value.oneCell']; done) | (refine Z.all_one ?_; assumption)) (by first | exact SX.at0 | exact SX.at1 | exact SX.at2 | exact SX.at3 | exact SX.at4 | exact SX.at5 | exact Z.at6 | exact Z.at7 | exact Z.at8 | exact Z.at9 | exact Z.at10 | exact Z.at11 | exact Z.at12) (by first | decide | (simp; done) | (simp; omega)) ?_
    clear hs; intro ws hs
    simp only [Nat.zero_add, Nat.add_zero, Nat.reduceAdd, Int.reduceToNat, Nat.reduceMul, List.set_cons_zero, List.set_cons_succ, List.setIfInBounds_toArray] at hs
    try simp only [Z.putL, Nat.zero_add] at hs
    refine Z.lb 1 rfl ?_
    refine Z.lnil ?_
    refine Z.only [3, 5, 6, 9, 10] rfl ?_
    refine Z.nthen ?_
    refine Z.seq ?_
    refine Z.seq ?_
    refine Z.region ?_
    refine Z.lb 3 rfl ?_
    refine Z.l rfl rfl (by rfl) (Z.keepS hs) (Z.Yd.fieldA (m := 0) rfl (by kernel_rfl)) ?_
    refine Z.l rfl rfl (by rfl) (Z.keepS hs) (by first | exact Z.Yd.load rfl Try.isAgg3 (fun _ => Z.cellB (by first | ((repeat (first | exact List.mem_cons_self | refine List.mem_cons_of_mem _ ?_ | refine List.mem_append_right _ ?_)); done) | fail) rfl) | exact Z.Yd.load rfl Try.isAgg3 (fun _ => Z.cellO (by assumption) (by simp) (by assumption)) | fail "load 2.4") ?_
    refine Z.lb 3 rfl ?_
    refine Z.l rfl rfl (by rfl) (Z.keepS hs) (Z.Yd.fieldA (m := 0) rfl (by kernel_rfl)) ?_
    refine Z.l rfl rfl (by rfl) (Z.keepS hs) (by first | exact Z.Yd.load rfl Try.isAgg3 (fun _ => Z.cellB (by first | ((repeat (first | exact List.mem_cons_self | refine List.mem_cons_of_mem _ ?_ | refine List.mem_append_right _ ?_)); done) | fail) rfl) | exact Z.Yd.load rfl Try.isAgg3 (fun _ => Z.cellO (by assumption) (by simp) (by assumption)) | fail "load 2.9") ?_
    refine Z.lb 3 rfl ?_
    refine Z.l rfl rfl (by rfl) (Z.keepS hs) (Z.Yd.fieldA (m := 1) rfl (by kernel_rfl)) ?_
    refine Z.l rfl rfl (by rfl) (Z.keepS hs) (by first | exact Z.Yd.load rfl Try.isAgg3 (fun _ => Z.cellB (by first | ((repeat (first | exact List.mem_cons_self | refine List.mem_cons_of_mem _ ?_ | refine List.mem_append_right _ ?_)); done) | fail) rfl) | exact Z.Yd.load rfl Try.isAgg3 (fun _ => Z.cellO (by assumption) (by simp) (by assumption)) | fail "load 2.14") ?_
    refine Z.lb 3 rfl ?_
    refine Z.l rfl rfl (by rfl) (Z.keepS hs) (Z.Yd.fieldA (m := 1) rfl (by kernel_rfl)) ?_
    refine Z.l rfl rfl (by rfl) (Z.keepS hs) (by first | exact Z.Yd.load rfl Try.isAgg3 (fun _ => Z.cellB (by first | ((repeat (first | exact List.mem_cons_self | refine List.mem_cons_of_mem _ ?_ | refine List.mem_append_right _ ?_)); done) | fail) rfl) | exact Z.Yd.load rfl Try.isAgg3 (fun _ => Z.cellO (by assumption) (by simp) (by assumption)) | fail "load 2.19") ?_
    refine Z.lb 3 rfl ?_
    refine Z.l rfl rfl (by rfl) (Z.keepS hs) (Z.Yd.fieldA (m := 2) rfl (by kernel_rfl)) ?_
    refine Z.l rfl rfl (by rfl) (Z.keepS hs) (by first | exact Z.Yd.load rfl Try.isAgg3 (fun _ => Z.cellB (by first | ((repeat (first | exact List.mem_cons_self | refine List.mem_cons_of_mem _ ?_ | refine List.mem_append_right _ ?_)); done) | fail) rfl) | exact Z.Yd.load rfl Try.isAgg3 (fun _ => Z.cellO (by assumption) (by simp) (by assumption)) | fail "load 2.24") ?_
    refine Z.lb 3 rfl ?_
    refine Z.l rfl rfl (by rfl) (Z.keepS hs) (Z.Yd.fieldA (m := 2) rfl (by kernel_rfl)) ?_
    refine Z.l rfl rfl (by rfl) (Z.keepS hs) (by first | exact Z.Yd.load rfl Try.isAgg3 (fun _ => Z.cellB (by first | ((repeat (first | exact List.mem_cons_self | refine List.mem_cons_of_mem _ ?_ | refine List.mem_append_right _ ?_)); done) | fail) rfl) | exact Z.Yd.load rfl Try.isAgg3 (fun _ => Z.cellO (by assumption) (by simp) (by assumption)) | fail "load 2.29") ?_
    refine Z.lb 2 rfl ?_
    refine Z.lnil ?_
    refine Z.only [3, 5, 6, 9, 48] rfl ?_
    refine Z.nthen ?_
    refine Z.cond rfl (fun hc2 => ?_) (fun h => absurd h (by unfold tickE; split <;> simp <;> (have h0 : ¬ okR p r k := fun h => ht ⟨by assumption, h⟩; unfold okR at h0; omega)))
    refine Z.seq ?_
    refine Z.region ?_
    refine Z.l rfl rfl (by rfl) (Z.keepS hs) (by first | exact Z.Yd.loadA _ rfl Try.isAgg51 (fun _ => Z.cellsB (by first | ((repeat (first | exact List.mem_cons_self | refine List.mem_cons_of_mem _ ?_ | refine List.mem_append_right _ ?_)); done) | fail)) (by exact Try.sizeOf51) | fail "load 3.0") ?_
    refine Z.le rfl trivial ?_
    first | refine Z.ZO.storeA rfl rfl hs rfl rfl (by kernel_rfl) (by first | (simp [Value.oneCell']; done) | (refine Z.all_one ?_; assumption)) (by first | exact SX.at0 | exact SX.at1 | exact SX.at2 | exact SX.at3 | exact SX.at4 | exact SX.at5 | exact Z.at6 | exact Z.at7 | exact Z.at8 | exact Z.at9 | exact Z.at10 | exact Z.at11 | exact Z.at12) (by rfl) ?_ | refine Z.ZO.storeP rfl rfl hs rfl rfl (by kernel_rfl) (by first | (simp [Value.oneCell']; done) | (refine Z.all_one ?_; assumption)) (by first | exact SX.at0 | exact SX.at1 | exact SX.at2 | exact SX.at3 | exact SX.at4 | exact SX.at5 | exact Z.at6 | exact Z.at7 | exact Z.at8 | exact Z.at9 | exact Z.at10 | exact Z.at11 | exact Z.at12) (by first | decide | (simp; done) | (simp; omega)) ?_ | refine Z.ZO.storePR rfl rfl hs rfl rfl (by kernel_rfl) (by first | (simp [Value.oneCell']; done) | (refine Z.all_one ?_; assumption)) (by first | exact SX.at0 | exact SX.at1 | exact SX.at2 | exact SX.at3 | exact SX.at4 | exact SX.at5 | exact Z.at6 | exact Z.at7 | exact Z.at8 | exact Z.at9 | exact Z.at10 | exact Z.at11 | exact Z.at12) (by first | decide | (simp; done) | (simp; omega)) ?_
    clear hs; intro ws hs
    simp only [Nat.zero_add, Nat.add_zero, Nat.reduceAdd, Int.reduceToNat, Nat.reduceMul, List.set_cons_zero, List.set_cons_succ, List.setIfInBounds_toArray] at hs
    try simp only [Z.putL, Nat.zero_add] at hs
    refine Z.lb 2 rfl ?_
    refine Z.lnil ?_
    refine Z.only [6, 7, 8] rfl ?_
    refine Z.nthen ?_
    refine Z.ret ?_
    repeat (first | refine Z.rthen ?_ | refine Z.rblock ?_ | refine Z.rscope ?_)
    -- ret#0
    refine Z.out3 (by exact ⟨⟨_, rfl, Z.rvcA hs Try.isAgg51 (by first | ((repeat (first | exact List.mem_cons_self | refine List.mem_cons_of_mem _ ?_ | refine List.mem_append_right _ ?_)); done) | fail) (by exact Try.sizeOf51)⟩, rfl, rfl, trivial⟩) ?_
    exact ⟨_, rfl, rfl, hs.sub (List.nil_sublist _)⟩
end Go.Proofs.Ytjgfooakcljddaa

/- Random access of a handset: the document's messages. -/
namespace Go.Proofs.Ytjgfooakcljddaa
open Go.RowKit
set_option linter.unusedSimpArgs false
set_option linter.unusedVariables false
--newlaws

theorem acr_message (m : AcV) (w : World) (hf : m.cfg) :
    Calls Try.prog 42 #[.agg m.cells.toArray] w (SX.Ret fun v w' => OwnPt (msgC m) (msgL m) v w w') := by
  have hs := SX.St.start w
  show Calls Try.prog 42 #[.agg #[.int .u64 (m).id, .int .i64 (m).rnt, .int .i64 (m).win, .int .i64 (m).con, .int .i64 (m).max, .int .i64 (m).st, .int .i64 (m).now, .int .i64 (m).due, .int .i64 (m).frm, .int .i64 (m).pre, .int .i64 (m).att, .int .i64 (m).bnd, .int .i64 (m).rn]] w _
  obtain ⟨h1, h2, -⟩ := hf
  obtain ⟨idn, hid⟩ := Int.eq_ofNat_of_zero_le h1.1
  obtain ⟨rtn, hrt⟩ := Int.eq_ofNat_of_zero_le h2.1
  by_cases h0 : m.rnt = 0
  · have e1 : msgC m = 28 := if_pos h0
    have e2 : msgL m = be 6 m.id := if_pos h0
    rw [e1, e2, hid]
    refine Z.enter Try.func42 rfl Try.ntmps42 rfl rfl ?_
    refine Z.seq ?_
    refine Z.region ?_
    refine Z.le rfl trivial ?_
    refine Z.ZO.box rfl rfl (by rfl) rfl rfl hs ?_
    clear hs; intro g1 w1 hs
    refine Z.le rfl trivial ?_
    refine Z.ZO.alloc rfl rfl (by rfl) Try.zeroValue40 rfl hs ?_
    clear hs; intro g2 w2 hs
    refine Z.lnil ?_
    refine Z.only [1, 2] rfl ?_
    refine Z.nthen ?_
    refine Z.seq ?_
    refine Z.region ?_
    refine Z.l rfl rfl (by rfl) (Z.keepS hs) (Z.Yd.fieldA (m := 0) rfl (by kernel_rfl)) ?_
    refine Z.l rfl rfl (by rfl) (Z.keepS hs) (Z.Yd.fieldA (m := 0) rfl (by kernel_rfl)) ?_
    refine Z.l rfl rfl (by rfl) (Z.keepS hs) (by first | exact Z.Yd.load rfl Try.isAgg22 (fun _ => Z.cellB (by first | ((repeat (first | exact List.mem_cons_self | refine List.mem_cons_of_mem _ ?_ | refine List.mem_append_right _ ?_)); done) | fail) rfl) | exact Z.Yd.load rfl Try.isAgg22 (fun _ => Z.cellO (by assumption) (by simp) (by assumption)) | fail "load 1.2") ?_
    refine Z.lb 2 rfl ?_
    refine Z.lnil ?_
    refine Z.only [1, 2, 3, 4] rfl ?_
    refine Z.nthen ?_
    refine Z.seq ?_
    refine Z.seq ?_
    refine Z.region ?_
    refine Z.l rfl rfl (by rfl) (Z.keepS hs) (Z.Yd.fieldA (m := 0) rfl (by kernel_rfl)) ?_
    refine Z.l rfl rfl (by rfl) (Z.keepS hs) (Z.Yd.fieldA (m := 1) rfl (by kernel_rfl)) ?_
    refine Z.l rfl rfl (by rfl) (Z.keepS hs) (by first | exact Z.Yd.load rfl Try.isAgg3 (fun _ => Z.cellB (by first | ((repeat (first | exact List.mem_cons_self | refine List.mem_cons_of_mem _ ?_ | refine List.mem_append_right _ ?_)); done) | fail) rfl) | exact Z.Yd.load rfl Try.isAgg3 (fun _ => Z.cellO (by assumption) (by simp) (by assumption)) | fail "load 2.2") ?_
    refine Z.lb 1 rfl ?_
    refine Z.lnil ?_
    refine Z.only [1, 2, 3, 4, 13] rfl ?_
    refine Z.nthen ?_
    refine Z.cond rfl (fun h => absurd h (by simp; omega)) (fun hc2 => ?_)
    refine Z.skip ?_
    refine Z.nthen ?_
    refine Z.seq ?_
    refine Z.region ?_
    refine Z.lb 2 rfl ?_
    refine Z.le rfl trivial ?_
    refine Z.ZO.call rfl rfl (by rfl) rfl rfl Try.call57 rfl (rencid_go 28 6 idn _ (by omega) (.inr ⟨rfl, rfl⟩) (by show idn / 281474976710656 = 0; omega)) ?_
    rintro v4_2 w4_2 ⟨u, rfl, B, cc, co, rfl, hy⟩
    replace hs := hs.call hy
    clear hy
    try simp only [List.cons_append, List.nil_append, List.append_nil] at hs
    refine Z.lb 3 rfl ?_
    refine Z.le rfl trivial ?_
    refine Z.ZO.alloc rfl rfl (by rfl) Try.zeroValue40 rfl hs ?_
    clear hs; intro g5 w5 hs
    refine Z.le rfl trivial ?_
    first | refine Z.ZO.storeA rfl rfl hs rfl rfl (by kernel_rfl) (by first | (simp [Value.oneCell']; done) | (refine Z.all_one ?_; assumption)) (by first | exact SX.at0 | exact SX.at1 | exact SX.at2 | exact SX.at3 | exact SX.at4 | exact SX.at5 | exact Z.at6 | exact Z.at7 | exact Z.at8 | exact Z.at9 | exact Z.at10 | exact Z.at11 | exact Z.at12) (by rfl) ?_ | refine Z.ZO.storeP rfl rfl hs rfl rfl (by kernel_rfl) (by first | (simp [Value.oneCell']; done) | (refine Z.all_one ?_; assumption)) (by first | exact SX.at0 | exact SX.at1 | exact SX.at2 | exact SX.at3 | exact SX.at4 | exact SX.at5 | exact Z.at6 | exact Z.at7 | exact Z.at8 | exact Z.at9 | exact Z.at10 | exact Z.at11 | exact Z.at12) (by first | decide | (simp; done) | (simp; omega)) ?_ | refine Z.ZO.storePR rfl rfl hs rfl rfl (by kernel_rfl) (by first | (simp [Value.oneCell']; done) | (refine Z.all_one ?_; assumption)) (by first | exact SX.at0 | exact SX.at1 | exact SX.at2 | exact SX.at3 | exact SX.at4 | exact SX.at5 | exact Z.at6 | exact Z.at7 | exact Z.at8 | exact Z.at9 | exact Z.at10 | exact Z.at11 | exact Z.at12) (by first | decide | (simp; done) | (simp; omega)) ?_
    clear hs; intro ws hs
    simp only [Nat.zero_add, Nat.add_zero, Nat.reduceAdd, Int.reduceToNat, Nat.reduceMul, List.set_cons_zero, List.set_cons_succ, List.setIfInBounds_toArray] at hs
    try simp only [Z.putL, Nat.zero_add] at hs
    refine Z.lb 1 rfl ?_
    refine Z.lnil ?_
    refine Z.only [2, 5] rfl ?_
    refine Z.nthen ?_
    refine Z.seq ?_
    refine Z.region ?_
    refine Z.l rfl rfl (by rfl) (Z.keepS hs) (by first | exact Z.Yd.loadA _ rfl Try.isAgg40 (fun _ => Z.cellsB (by first | ((repeat (first | exact List.mem_cons_self | refine List.mem_cons_of_mem _ ?_ | refine List.mem_append_right _ ?_)); done) | fail)) (by exact Try.sizeOf40) | fail "load 5.0") ?_
    refine Z.le rfl trivial ?_
    first | refine Z.ZO.storeA rfl rfl hs rfl rfl (by kernel_rfl) (by first | (simp [Value.oneCell']; done) | (refine Z.all_one ?_; assumption)) (by first | exact SX.at0 | exact SX.at1 | exact SX.at2 | exact SX.at3 | exact SX.at4 | exact SX.at5 | exact Z.at6 | exact Z.at7 | exact Z.at8 | exact Z.at9 | exact Z.at10 | exact Z.at11 | exact Z.at12) (by rfl) ?_ | refine Z.ZO.storeP rfl rfl hs rfl rfl (by kernel_rfl) (by first | (simp [Value.oneCell']; done) | (refine Z.all_one ?_; assumption)) (by first | exact SX.at0 | exact SX.at1 | exact SX.at2 | exact SX.at3 | exact SX.at4 | exact SX.at5 | exact Z.at6 | exact Z.at7 | exact Z.at8 | exact Z.at9 | exact Z.at10 | exact Z.at11 | exact Z.at12) (by first | decide | (simp; done) | (simp; omega)) ?_ | refine Z.ZO.storePR rfl rfl hs rfl rfl (by kernel_rfl) (by first | (simp [Value.oneCell']; done) | (refine Z.all_one ?_; assumption)) (by first | exact SX.at0 | exact SX.at1 | exact SX.at2 | exact SX.at3 | exact SX.at4 | exact SX.at5 | exact Z.at6 | exact Z.at7 | exact Z.at8 | exact Z.at9 | exact Z.at10 | exact Z.at11 | exact Z.at12) (by first | decide | (simp; done) | (simp; omega)) ?_
    clear hs; intro ws hs
    simp only [Nat.zero_add, Nat.add_zero, Nat.reduceAdd, Int.reduceToNat, Nat.reduceMul, List.set_cons_zero, List.set_cons_succ, List.setIfInBounds_toArray] at hs
    try simp only [Z.putL, Nat.zero_add] at hs
    refine Z.lnil ?_
    refine Z.only [2] rfl ?_
    refine Z.nthen ?_
    refine Z.ret ?_
    -- ret#0
    refine Z.out1 (by exact ⟨⟨_, rfl, Z.rvcA hs Try.isAgg40 (by first | ((repeat (first | exact List.mem_cons_self | refine List.mem_cons_of_mem _ ?_ | refine List.mem_append_right _ ?_)); done) | fail) (by exact Try.sizeOf40)⟩, trivial⟩) ?_
    exact ⟨_, rfl, B, _, co, rfl, hs.sel [1] (by decide)⟩
  · have e1 : msgC m = 27 := if_neg h0
    have e2 : msgL m = be 2 m.rnt := if_neg h0
    rw [e1, e2, hrt]
    refine Z.enter Try.func42 rfl Try.ntmps42 rfl rfl ?_
    refine Z.seq ?_
    refine Z.region ?_
    refine Z.le rfl trivial ?_
    refine Z.ZO.box rfl rfl (by rfl) rfl rfl hs ?_
    clear hs; intro g1 w1 hs
    refine Z.le rfl trivial ?_
    refine Z.ZO.alloc rfl rfl (by rfl) Try.zeroValue40 rfl hs ?_
    clear hs; intro g2 w2 hs
    refine Z.lnil ?_
    refine Z.only [1, 2] rfl ?_
    refine Z.nthen ?_
    refine Z.seq ?_
    refine Z.region ?_
    refine Z.l rfl rfl (by rfl) (Z.keepS hs) (Z.Yd.fieldA (m := 0) rfl (by kernel_rfl)) ?_
    refine Z.l rfl rfl (by rfl) (Z.keepS hs) (Z.Yd.fieldA (m := 0) rfl (by kernel_rfl)) ?_
    refine Z.l rfl rfl (by rfl) (Z.keepS hs) (by first | exact Z.Yd.load rfl Try.isAgg22 (fun _ => Z.cellB (by first | ((repeat (first | exact List.mem_cons_self | refine List.mem_cons_of_mem _ ?_ | refine List.mem_append_right _ ?_)); done) | fail) rfl) | exact Z.Yd.load rfl Try.isAgg22 (fun _ => Z.cellO (by assumption) (by simp) (by assumption)) | fail "load 1.2") ?_
    refine Z.lb 2 rfl ?_
    refine Z.lnil ?_
    refine Z.only [1, 2, 3, 4] rfl ?_
    refine Z.nthen ?_
    refine Z.seq ?_
    refine Z.seq ?_
    refine Z.region ?_
    refine Z.l rfl rfl (by rfl) (Z.keepS hs) (Z.Yd.fieldA (m := 0) rfl (by kernel_rfl)) ?_
    refine Z.l rfl rfl (by rfl) (Z.keepS hs) (Z.Yd.fieldA (m := 1) rfl (by kernel_rfl)) ?_
    refine Z.l rfl rfl (by rfl) (Z.keepS hs) (by first | exact Z.Yd.load rfl Try.isAgg3 (fun _ => Z.cellB (by first | ((repeat (first | exact List.mem_cons_self | refine List.mem_cons_of_mem _ ?_ | refine List.mem_append_right _ ?_)); done) | fail) rfl) | exact Z.Yd.load rfl Try.isAgg3 (fun _ => Z.cellO (by assumption) (by simp) (by assumption)) | fail "load 2.2") ?_
    refine Z.lb 1 rfl ?_
    refine Z.lnil ?_
    refine Z.only [1, 2, 3, 4, 13] rfl ?_
    refine Z.nthen ?_
    refine Z.cond rfl (fun hc2 => ?_) (fun h => absurd h (by simp; omega))
    refine Z.region ?_
    refine Z.l rfl rfl (by rfl) (Z.keepS hs) (Z.Yd.fieldA (m := 0) rfl (by kernel_rfl)) ?_
    refine Z.l rfl rfl (by rfl) (Z.keepS hs) (Z.Yd.fieldA (m := 1) rfl (by kernel_rfl)) ?_
    refine Z.l rfl rfl (by rfl) (Z.keepS hs) (by first | exact Z.Yd.load rfl Try.isAgg3 (fun _ => Z.cellB (by first | ((repeat (first | exact List.mem_cons_self | refine List.mem_cons_of_mem _ ?_ | refine List.mem_append_right _ ?_)); done) | fail) rfl) | exact Z.Yd.load rfl Try.isAgg3 (fun _ => Z.cellO (by assumption) (by simp) (by assumption)) | fail "load 3.2") ?_
    refine Z.l rfl rfl (by rfl) (Z.keepS hs) (Z.Yd.convI rfl ⟨_, Try.underlying3⟩ Try.underlying22 (fun hG => Z.wu64 (by first | omega | (have hG' := Z.gh rfl hG; simp at hG'; omega)))) ?_
    refine Z.lb 2 rfl ?_
    refine Z.lnil ?_
    refine Z.only [2, 3, 4] rfl ?_
    refine Z.nthen ?_
    refine Z.seq ?_
    refine Z.region ?_
    refine Z.lb 2 rfl ?_
    refine Z.le rfl trivial ?_
    refine Z.ZO.call rfl rfl (by rfl) rfl rfl Try.call57 rfl (rencid_go 27 2 rtn _ (by omega) (.inl ⟨rfl, rfl⟩) (by show rtn / 65536 = 0; omega)) ?_
    rintro v4_2 w4_2 ⟨u, rfl, B, cc, co, rfl, hy⟩
    replace hs := hs.call hy
    clear hy
    try simp only [List.cons_append, List.nil_append, List.append_nil] at hs
    refine Z.lb 3 rfl ?_
    refine Z.le rfl trivial ?_
    refine Z.ZO.alloc rfl rfl (by rfl) Try.zeroValue40 rfl hs ?_
    clear hs; intro g5 w5 hs
    refine Z.le rfl trivial ?_
    first | refine Z.ZO.storeA rfl rfl hs rfl rfl (by kernel_rfl) (by first | (simp [Value.oneCell']; done) | (refine Z.all_one ?_; assumption)) (by first | exact SX.at0 | exact SX.at1 | exact SX.at2 | exact SX.at3 | exact SX.at4 | exact SX.at5 | exact Z.at6 | exact Z.at7 | exact Z.at8 | exact Z.at9 | exact Z.at10 | exact Z.at11 | exact Z.at12) (by rfl) ?_ | refine Z.ZO.storeP rfl rfl hs rfl rfl (by kernel_rfl) (by first | (simp [Value.oneCell']; done) | (refine Z.all_one ?_; assumption)) (by first | exact SX.at0 | exact SX.at1 | exact SX.at2 | exact SX.at3 | exact SX.at4 | exact SX.at5 | exact Z.at6 | exact Z.at7 | exact Z.at8 | exact Z.at9 | exact Z.at10 | exact Z.at11 | exact Z.at12) (by first | decide | (simp; done) | (simp; omega)) ?_ | refine Z.ZO.storePR rfl rfl hs rfl rfl (by kernel_rfl) (by first | (simp [Value.oneCell']; done) | (refine Z.all_one ?_; assumption)) (by first | exact SX.at0 | exact SX.at1 | exact SX.at2 | exact SX.at3 | exact SX.at4 | exact SX.at5 | exact Z.at6 | exact Z.at7 | exact Z.at8 | exact Z.at9 | exact Z.at10 | exact Z.at11 | exact Z.at12) (by first | decide | (simp; done) | (simp; omega)) ?_
    clear hs; intro ws hs
    simp only [Nat.zero_add, Nat.add_zero, Nat.reduceAdd, Int.reduceToNat, Nat.reduceMul, List.set_cons_zero, List.set_cons_succ, List.setIfInBounds_toArray] at hs
    try simp only [Z.putL, Nat.zero_add] at hs
    refine Z.lb 1 rfl ?_
    refine Z.lnil ?_
    refine Z.only [2, 5] rfl ?_
    refine Z.nthen ?_
    refine Z.seq ?_
    refine Z.region ?_
    refine Z.l rfl rfl (by rfl) (Z.keepS hs) (by first | exact Z.Yd.loadA _ rfl Try.isAgg40 (fun _ => Z.cellsB (by first | ((repeat (first | exact List.mem_cons_self | refine List.mem_cons_of_mem _ ?_ | refine List.mem_append_right _ ?_)); done) | fail)) (by exact Try.sizeOf40) | fail "load 5.0") ?_
    refine Z.le rfl trivial ?_
    first | refine Z.ZO.storeA rfl rfl hs rfl rfl (by kernel_rfl) (by first | (simp [Value.oneCell']; done) | (refine Z.all_one ?_; assumption)) (by first | exact SX.at0 | exact SX.at1 | exact SX.at2 | exact SX.at3 | exact SX.at4 | exact SX.at5 | exact Z.at6 | exact Z.at7 | exact Z.at8 | exact Z.at9 | exact Z.at10 | exact Z.at11 | exact Z.at12) (by rfl) ?_ | refine Z.ZO.storeP rfl rfl hs rfl rfl (by kernel_rfl) (by first | (simp [Value.oneCell']; done) | (refine Z.all_one ?_; assumption)) (by first | exact SX.at0 | exact SX.at1 | exact SX.at2 | exact SX.at3 | exact SX.at4 | exact SX.at5 | exact Z.at6 | exact Z.at7 | exact Z.at8 | exact Z.at9 | exact Z.at10 | exact Z.at11 | exact Z.at12) (by first | decide | (simp; done) | (simp; omega)) ?_ | refine Z.ZO.storePR rfl rfl hs rfl rfl (by kernel_rfl) (by first | (simp [Value.oneCell']; done) | (refine Z.all_one ?_; assumption)) (by first | exact SX.at0 | exact SX.at1 | exact SX.at2 | exact SX.at3 | exact SX.at4 | exact SX.at5 | exact Z.at6 | exact Z.at7 | exact Z.at8 | exact Z.at9 | exact Z.at10 | exact Z.at11 | exact Z.at12) (by first | decide | (simp; done) | (simp; omega)) ?_
    clear hs; intro ws hs
    simp only [Nat.zero_add, Nat.add_zero, Nat.reduceAdd, Int.reduceToNat, Nat.reduceMul, List.set_cons_zero, List.set_cons_succ, List.setIfInBounds_toArray] at hs
    try simp only [Z.putL, Nat.zero_add] at hs
    refine Z.lnil ?_
    refine Z.only [2] rfl ?_
    refine Z.nthen ?_
    refine Z.ret ?_
    -- ret#0
    refine Z.out1 (by exact ⟨⟨_, rfl, Z.rvcA hs Try.isAgg40 (by first | ((repeat (first | exact List.mem_cons_self | refine List.mem_cons_of_mem _ ?_ | refine List.mem_append_right _ ?_)); done) | fail) (by exact Try.sizeOf40)⟩, trivial⟩) ?_
    exact ⟨_, rfl, B, _, co, rfl, hs.sel [1] (by decide)⟩
theorem acr_use (m : AcV) (w : World) (hf : m.cfg) : Calls Try.prog 41 #[.agg m.cells.toArray] w (SX.Ret fun v w' => v = .int .i64 (useV m) ∧ SX.St w [] w' []) := by
  have hs := SX.St.start w
  show Calls Try.prog 41 #[.agg #[.int .u64 (m).id, .int .i64 (m).rnt, .int .i64 (m).win, .int .i64 (m).con, .int .i64 (m).max, .int .i64 (m).st, .int .i64 (m).now, .int .i64 (m).due, .int .i64 (m).frm, .int .i64 (m).pre, .int .i64 (m).att, .int .i64 (m).bnd, .int .i64 (m).rn]] w _
  have hr := hf.2.1
  refine Z.enter Try.func41 rfl Try.ntmps41 rfl rfl ?_
  refine Z.seq ?_
  refine Z.region ?_
  refine Z.le rfl trivial ?_
  refine Z.ZO.box rfl rfl (by rfl) rfl rfl hs ?_
  clear hs; intro g1 w1 hs
  refine Z.lb 1 rfl ?_
  refine Z.lnil ?_
  refine Z.only [1] rfl ?_
  refine Z.nthen ?_
  refine Z.seq ?_
  refine Z.seq ?_
  refine Z.region ?_
  refine Z.l rfl rfl (by rfl) (Z.keepS hs) (Z.Yd.fieldA (m := 5) rfl (by kernel_rfl)) ?_
  refine Z.l rfl rfl (by rfl) (Z.keepS hs) (by first | exact Z.Yd.load rfl Try.isAgg44 (fun _ => Z.cellB (by first | ((repeat (first | exact List.mem_cons_self | refine List.mem_cons_of_mem _ ?_ | refine List.mem_append_right _ ?_)); done) | fail) rfl) | exact Z.Yd.load rfl Try.isAgg44 (fun _ => Z.cellO (by assumption) (by simp) (by assumption)) | fail "load 1.1") ?_
  refine Z.lb 1 rfl ?_
  refine Z.lnil ?_
  refine Z.only [1, 5] rfl ?_
  refine Z.nthen ?_
  refine Z.cond rfl (fun hc1 => ?_) (fun hc1 => ?_)
  · first
      | (exfalso; simp at hc1 <;> omega)
      | (
        (try simp at hc1)
        have e : useV m = 0 := if_neg (by assumption)
        rw [e]
        refine Z.seq ?_
        refine Z.region ?_
        refine Z.lb 1 rfl ?_
        refine Z.lnil ?_
        refine Z.only [2] rfl ?_
        refine Z.nthen ?_
        refine Z.ret ?_
        repeat (first | refine Z.rthen ?_ | refine Z.rblock ?_ | refine Z.rscope ?_)
        -- ret#0
        refine Z.out1 (by exact ⟨rfl, trivial⟩) ?_
        exact ⟨_, rfl, rfl, hs.sub (List.nil_sublist _)⟩
        )
  · first
      | (exfalso; simp at hc1 <;> omega)
      | (
        (try simp at hc1)
        refine Z.skip ?_
        refine Z.nthen ?_
        refine Z.seq ?_
        refine Z.seq ?_
        refine Z.region ?_
        refine Z.l rfl rfl (by rfl) (Z.keepS hs) (Z.Yd.fieldA (m := 0) rfl (by kernel_rfl)) ?_
        refine Z.l rfl rfl (by rfl) (Z.keepS hs) (Z.Yd.fieldA (m := 1) rfl (by kernel_rfl)) ?_
        refine Z.l rfl rfl (by rfl) (Z.keepS hs) (by first | exact Z.Yd.load rfl Try.isAgg3 (fun _ => Z.cellB (by first | ((repeat (first | exact List.mem_cons_self | refine List.mem_cons_of_mem _ ?_ | refine List.mem_append_right _ ?_)); done) | fail) rfl) | exact Z.Yd.load rfl Try.isAgg3 (fun _ => Z.cellO (by assumption) (by simp) (by assumption)) | fail "load 3.2") ?_
        refine Z.lb 1 rfl ?_
        refine Z.lnil ?_
        refine Z.only [1, 9] rfl ?_
        refine Z.nthen ?_
        refine Z.cond rfl (fun hc3 => ?_) (fun hc3 => ?_)
        · first
            | (exfalso; simp at hc3 <;> omega)
            | (
              (try simp at hc3)
              have e : useV m = m.rnt := by unfold useV; rw [if_pos (by assumption), if_pos (by omega)]
              rw [e]
              refine Z.seq ?_
              refine Z.region ?_
              refine Z.l rfl rfl (by rfl) (Z.keepS hs) (Z.Yd.fieldA (m := 0) rfl (by kernel_rfl)) ?_
              refine Z.l rfl rfl (by rfl) (Z.keepS hs) (Z.Yd.fieldA (m := 1) rfl (by kernel_rfl)) ?_
              refine Z.l rfl rfl (by rfl) (Z.keepS hs) (by first | exact Z.Yd.load rfl Try.isAgg3 (fun _ => Z.cellB (by first | ((repeat (first | exact List.mem_cons_self | refine List.mem_cons_of_mem _ ?_ | refine List.mem_append_right _ ?_)); done) | fail) rfl) | exact Z.Yd.load rfl Try.isAgg3 (fun _ => Z.cellO (by assumption) (by simp) (by assumption)) | fail "load 4.2") ?_
              refine Z.lb 1 rfl ?_
              refine Z.lnil ?_
              refine Z.only [2] rfl ?_
              refine Z.nthen ?_
              refine Z.ret ?_
              repeat (first | refine Z.rthen ?_ | refine Z.rblock ?_ | refine Z.rscope ?_)
              -- ret#1
              refine Z.out1 (by exact ⟨rfl, trivial⟩) ?_
              exact ⟨_, rfl, rfl, hs.sub (List.nil_sublist _)⟩
              )
        · first
            | (exfalso; simp at hc3 <;> omega)
            | (
              (try simp at hc3)
              have e : useV m = m.rn := by unfold useV; rw [if_pos (by assumption), if_neg (by omega)]
              rw [e]
              refine Z.skip ?_
              refine Z.nthen ?_
              refine Z.seq ?_
              refine Z.region ?_
              refine Z.l rfl rfl (by rfl) (Z.keepS hs) (Z.Yd.fieldA (m := 12) rfl (by kernel_rfl)) ?_
              refine Z.l rfl rfl (by rfl) (Z.keepS hs) (by first | exact Z.Yd.load rfl Try.isAgg3 (fun _ => Z.cellB (by first | ((repeat (first | exact List.mem_cons_self | refine List.mem_cons_of_mem _ ?_ | refine List.mem_append_right _ ?_)); done) | fail) rfl) | exact Z.Yd.load rfl Try.isAgg3 (fun _ => Z.cellO (by assumption) (by simp) (by assumption)) | fail "load 5.1") ?_
              refine Z.lb 1 rfl ?_
              refine Z.lnil ?_
              refine Z.only [2] rfl ?_
              refine Z.nthen ?_
              refine Z.ret ?_
              -- ret#2
              refine Z.out1 (by exact ⟨rfl, trivial⟩) ?_
              exact ⟨_, rfl, rfl, hs.sub (List.nil_sublist _)⟩
              )
        )
theorem acr_same (c1 c2 : Int) (A B : Option Addr) (n c m d : Nat) (l k : List Int) (w : World) (hx : Sl w A (ints .u8 l)) (hy : Sl w B (ints .u8 k)) (hl : l.length = n) (hk : k.length = m) (hb : ∀ x ∈ l, 0 ≤ x ∧ x < 256) (hc : ∀ x ∈ k, 0 ≤ x ∧ x < 256) :
    Calls Try.prog 26 #[.agg #[.int .i64 c1, .slice A n c], .agg #[.int .i64 c2, .slice B m d]] w (SX.Ret fun v w' => v = .bool (decide (c1 = c2 ∧ l = k)) ∧ SX.St w [] w' []) := by
  have hs := SX.St.start w
  have he := Z.str_eq hb hc
  refine Z.enter Try.func26 rfl Try.ntmps26 rfl rfl ?_
  refine Z.seq ?_
  refine Z.region ?_
  refine Z.le rfl trivial ?_
  refine Z.ZO.box rfl rfl (by rfl) rfl rfl hs ?_
  clear hs; intro g2 w2 hs
  refine Z.le rfl trivial ?_
  refine Z.ZO.box rfl rfl (by rfl) rfl rfl hs ?_
  clear hs; intro g3 w3 hs
  refine Z.lb 1 rfl ?_
  refine Z.lnil ?_
  refine Z.only [2, 3] rfl ?_
  refine Z.nthen ?_
  refine Z.seq ?_
  refine Z.region ?_
  refine Z.l rfl rfl (by rfl) (Z.keepS hs) (Z.Yd.fieldA (m := 0) rfl (by kernel_rfl)) ?_
  refine Z.l rfl rfl (by rfl) (Z.keepS hs) (by first | exact Z.Yd.load rfl Try.isAgg3 (fun _ => Z.cellB (by first | ((repeat (first | exact List.mem_cons_self | refine List.mem_cons_of_mem _ ?_ | refine List.mem_append_right _ ?_)); done) | fail) rfl) | exact Z.Yd.load rfl Try.isAgg3 (fun _ => Z.cellO (by assumption) (by simp) (by assumption)) | fail "load 1.1") ?_
  refine Z.l rfl rfl (by rfl) (Z.keepS hs) (Z.Yd.fieldA (m := 0) rfl (by kernel_rfl)) ?_
  refine Z.l rfl rfl (by rfl) (Z.keepS hs) (by first | exact Z.Yd.load rfl Try.isAgg3 (fun _ => Z.cellB (by first | ((repeat (first | exact List.mem_cons_self | refine List.mem_cons_of_mem _ ?_ | refine List.mem_append_right _ ?_)); done) | fail) rfl) | exact Z.Yd.load rfl Try.isAgg3 (fun _ => Z.cellO (by assumption) (by simp) (by assumption)) | fail "load 1.3") ?_
  refine Z.lb 2 rfl ?_
  refine Z.l rfl rfl (by rfl) (Z.keepS hs) (Z.Yd.fieldA (m := 1) rfl (by kernel_rfl)) ?_
  refine Z.l rfl rfl (by rfl) (Z.keepS hs) (by first | exact Z.Yd.load rfl Try.isAgg38 (fun _ => Z.cellB (by first | ((repeat (first | exact List.mem_cons_self | refine List.mem_cons_of_mem _ ?_ | refine List.mem_append_right _ ?_)); done) | fail) rfl) | exact Z.Yd.load rfl Try.isAgg38 (fun _ => Z.cellO (by assumption) (by simp) (by assumption)) | fail "load 1.7") ?_
  refine Z.l rfl rfl (by rfl) (Z.keepS hs) (Z.Yd.b2s rfl Try.underlying38 Try.underlying5 Try.underlying9 hl (fun W hW => by obtain ⟨R, hR, _⟩ := hW; exact hx.st hR)) ?_
  refine Z.l rfl rfl (by rfl) (Z.keepS hs) (Z.Yd.fieldA (m := 1) rfl (by kernel_rfl)) ?_
  refine Z.l rfl rfl (by rfl) (Z.keepS hs) (by first | exact Z.Yd.load rfl Try.isAgg38 (fun _ => Z.cellB (by first | ((repeat (first | exact List.mem_cons_self | refine List.mem_cons_of_mem _ ?_ | refine List.mem_append_right _ ?_)); done) | fail) rfl) | exact Z.Yd.load rfl Try.isAgg38 (fun _ => Z.cellO (by assumption) (by simp) (by assumption)) | fail "load 1.10") ?_
  refine Z.l rfl rfl (by rfl) (Z.keepS hs) (Z.Yd.b2s rfl Try.underlying38 Try.underlying5 Try.underlying9 hk (fun W hW => by obtain ⟨R, hR, _⟩ := hW; exact hy.st hR)) ?_
  refine Z.l rfl rfl (by rfl) (Z.keepS hs) (Z.Yd.strEq rfl rfl) ?_
  refine Z.lb 2 rfl ?_
  refine Z.lnil ?_
  refine Z.only [4] rfl ?_
  refine Z.nthen ?_
  refine Z.ret ?_
  -- ret#0
  refine Z.out1 (by exact ⟨rfl, trivial⟩) ?_
  exact ⟨_, rfl, by rw [he]; congr 1; rw [Bool.eq_iff_iff]; simp, hs.sub (List.nil_sublist _)⟩
theorem acr_new (i r n c x : Int) (w : World) : Calls Try.prog 20 #[.agg #[.int .u64 i, .int .i64 r, .int .i64 n, .int .i64 c, .int .i64 x]] w (SX.Ret fun v w' => v = .agg (newV i r n c x).cells.toArray ∧ SX.St w [] w' []) := by
  have hs := SX.St.start w
  refine Z.enter Try.func20 rfl Try.ntmps20 rfl rfl ?_
  refine Z.seq ?_
  refine Z.region ?_
  refine Z.le rfl trivial ?_
  refine Z.ZO.box rfl rfl (by rfl) rfl rfl hs ?_
  clear hs; intro g1 w1 hs
  refine Z.le rfl trivial ?_
  refine Z.ZO.alloc rfl rfl (by rfl) Try.zeroValue51 rfl hs ?_
  clear hs; intro g2 w2 hs
  refine Z.lnil ?_
  refine Z.only [1, 2] rfl ?_
  refine Z.nthen ?_
  refine Z.seq ?_
  refine Z.region ?_
  refine Z.l rfl rfl (by rfl) (Z.keepS hs) (by first | exact Z.Yd.loadA _ rfl Try.isAgg24 (fun _ => Z.cellsB (by first | ((repeat (first | exact List.mem_cons_self | refine List.mem_cons_of_mem _ ?_ | refine List.mem_append_right _ ?_)); done) | fail)) (by exact Try.sizeOf24) | fail "load 1.0") ?_
  refine Z.l rfl rfl (by rfl) (Z.keepS hs) (Z.Yd.buildL [(0, 5), (5, 1), (6, 1), (7, 1), (8, 1), (9, 1), (10, 1), (11, 1), (12, 1)] [.int .u64 0, .int .i64 0, .int .i64 0, .int .i64 0, .int .i64 0, .int .i64 0, .int .i64 0, .int .i64 0, .int .i64 0, .int .i64 0, .int .i64 0, .int .i64 0, .int .i64 0] rfl rfl (by intro w; kernel_rfl)) ?_
  refine Z.le rfl trivial ?_
  first | refine Z.ZO.storeA rfl rfl hs rfl rfl (by kernel_rfl) (by first | (simp [Value.oneCell']; done) | (refine Z.all_one ?_; assumption)) (by first | exact SX.at0 | exact SX.at1 | exact SX.at2 | exact SX.at3 | exact SX.at4 | exact SX.at5 | exact Z.at6 | exact Z.at7 | exact Z.at8 | exact Z.at9 | exact Z.at10 | exact Z.at11 | exact Z.at12) (by rfl) ?_ | refine Z.ZO.storeP rfl rfl hs rfl rfl (by kernel_rfl) (by first | (simp [Value.oneCell']; done) | (refine Z.all_one ?_; assumption)) (by first | exact SX.at0 | exact SX.at1 | exact SX.at2 | exact SX.at3 | exact SX.at4 | exact SX.at5 | exact Z.at6 | exact Z.at7 | exact Z.at8 | exact Z.at9 | exact Z.at10 | exact Z.at11 | exact Z.at12) (by first | decide | (simp; done) | (simp; omega)) ?_ | refine Z.ZO.storePR rfl rfl hs rfl rfl (by kernel_rfl) (by first | (simp [Value.oneCell']; done) | (refine Z.all_one ?_; assumption)) (by first | exact SX.at0 | exact SX.at1 | exact SX.at2 | exact SX.at3 | exact SX.at4 | exact SX.at5 | exact Z.at6 | exact Z.at7 | exact Z.at8 | exact Z.at9 | exact Z.at10 | exact Z.at11 | exact Z.at12) (by first | decide | (simp; done) | (simp; omega)) ?_
  clear hs; intro ws hs
  simp only [Nat.zero_add, Nat.add_zero, Nat.reduceAdd, Int.reduceToNat, Nat.reduceMul, List.set_cons_zero, List.set_cons_succ, List.setIfInBounds_toArray] at hs
  try simp only [Z.putL, Nat.zero_add] at hs
  refine Z.lnil ?_
  refine Z.only [2] rfl ?_
  refine Z.nthen ?_
  refine Z.ret ?_
  -- ret#0
  refine Z.out1 (by exact ⟨⟨_, rfl, Z.rvcA hs Try.isAgg51 (by first | ((repeat (first | exact List.mem_cons_self | refine List.mem_cons_of_mem _ ?_ | refine List.mem_append_right _ ?_)); done) | fail) (by exact Try.sizeOf51)⟩, trivial⟩) ?_
  exact ⟨_, rfl, rfl, hs.sub (List.nil_sublist _)⟩
theorem acr_valid (i r n c x : Int) (w : World) (hi : 0 ≤ i) : Calls Try.prog 19 #[.agg #[.int .u64 i, .int .i64 r, .int .i64 n, .int .i64 c, .int .i64 x]] w (SX.Ret fun v w' => v = .bool (decide (newV i r n c x).cfg) ∧ SX.St w [] w' []) := by
  have hs := SX.St.start w
  refine Z.enter Try.func19 rfl Try.ntmps19 rfl rfl ?_
  refine Z.seq ?_
  refine Z.region ?_
  refine Z.le rfl trivial ?_
  refine Z.ZO.box rfl rfl (by rfl) rfl rfl hs ?_
  clear hs; intro g1 w1 hs
  refine Z.lb 1 rfl ?_
  refine Z.lnil ?_
  refine Z.only [1] rfl ?_
  refine Z.nthen ?_
  refine Z.seq ?_
  refine Z.region ?_
  refine Z.l rfl rfl (by rfl) (Z.keepS hs) (Z.Yd.fieldA (m := 0) rfl (by kernel_rfl)) ?_
  refine Z.l rfl rfl (by rfl) (Z.keepS hs) (by first | exact Z.Yd.load rfl Try.isAgg22 (fun _ => Z.cellB (by first | ((repeat (first | exact List.mem_cons_self | refine List.mem_cons_of_mem _ ?_ | refine List.mem_append_right _ ?_)); done) | fail) rfl) | exact Z.Yd.load rfl Try.isAgg22 (fun _ => Z.cellO (by assumption) (by simp) (by assumption)) | fail "load 1.1") ?_
  refine Z.lb 2 rfl ?_
  refine Z.l rfl rfl (by rfl) (Z.keepS hs) (Z.Yd.fieldA (m := 1) rfl (by kernel_rfl)) ?_
  refine Z.l rfl rfl (by rfl) (Z.keepS hs) (by first | exact Z.Yd.load rfl Try.isAgg3 (fun _ => Z.cellB (by first | ((repeat (first | exact List.mem_cons_self | refine List.mem_cons_of_mem _ ?_ | refine List.mem_append_right _ ?_)); done) | fail) rfl) | exact Z.Yd.load rfl Try.isAgg3 (fun _ => Z.cellO (by assumption) (by simp) (by assumption)) | fail "load 1.5") ?_
  refine Z.lb 3 rfl ?_
  refine Z.l rfl rfl (by rfl) (Z.keepS hs) (Z.Yd.fieldA (m := 1) rfl (by kernel_rfl)) ?_
  refine Z.l rfl rfl (by rfl) (Z.keepS hs) (by first | exact Z.Yd.load rfl Try.isAgg3 (fun _ => Z.cellB (by first | ((repeat (first | exact List.mem_cons_self | refine List.mem_cons_of_mem _ ?_ | refine List.mem_append_right _ ?_)); done) | fail) rfl) | exact Z.Yd.load rfl Try.isAgg3 (fun _ => Z.cellO (by assumption) (by simp) (by assumption)) | fail "load 1.10") ?_
  refine Z.lb 3 rfl ?_
  refine Z.l rfl rfl (by rfl) (Z.keepS hs) (Z.Yd.fieldA (m := 2) rfl (by kernel_rfl)) ?_
  refine Z.l rfl rfl (by rfl) (Z.keepS hs) (by first | exact Z.Yd.load rfl Try.isAgg3 (fun _ => Z.cellB (by first | ((repeat (first | exact List.mem_cons_self | refine List.mem_cons_of_mem _ ?_ | refine List.mem_append_right _ ?_)); done) | fail) rfl) | exact Z.Yd.load rfl Try.isAgg3 (fun _ => Z.cellO (by assumption) (by simp) (by assumption)) | fail "load 1.15") ?_
  refine Z.lb 3 rfl ?_
  refine Z.l rfl rfl (by rfl) (Z.keepS hs) (Z.Yd.fieldA (m := 2) rfl (by kernel_rfl)) ?_
  refine Z.l rfl rfl (by rfl) (Z.keepS hs) (by first | exact Z.Yd.load rfl Try.isAgg3 (fun _ => Z.cellB (by first | ((repeat (first | exact List.mem_cons_self | refine List.mem_cons_of_mem _ ?_ | refine List.mem_append_right _ ?_)); done) | fail) rfl) | exact Z.Yd.load rfl Try.isAgg3 (fun _ => Z.cellO (by assumption) (by simp) (by assumption)) | fail "load 1.20") ?_
  refine Z.lb 3 rfl ?_
  refine Z.l rfl rfl (by rfl) (Z.keepS hs) (Z.Yd.fieldA (m := 3) rfl (by kernel_rfl)) ?_
  refine Z.l rfl rfl (by rfl) (Z.keepS hs) (by first | exact Z.Yd.load rfl Try.isAgg3 (fun _ => Z.cellB (by first | ((repeat (first | exact List.mem_cons_self | refine List.mem_cons_of_mem _ ?_ | refine List.mem_append_right _ ?_)); done) | fail) rfl) | exact Z.Yd.load rfl Try.isAgg3 (fun _ => Z.cellO (by assumption) (by simp) (by assumption)) | fail "load 1.25") ?_
  refine Z.lb 3 rfl ?_
  refine Z.l rfl rfl (by rfl) (Z.keepS hs) (Z.Yd.fieldA (m := 3) rfl (by kernel_rfl)) ?_
  refine Z.l rfl rfl (by rfl) (Z.keepS hs) (by first | exact Z.Yd.load rfl Try.isAgg3 (fun _ => Z.cellB (by first | ((repeat (first | exact List.mem_cons_self | refine List.mem_cons_of_mem _ ?_ | refine List.mem_append_right _ ?_)); done) | fail) rfl) | exact Z.Yd.load rfl Try.isAgg3 (fun _ => Z.cellO (by assumption) (by simp) (by assumption)) | fail "load 1.30") ?_
  refine Z.lb 3 rfl ?_
  refine Z.l rfl rfl (by rfl) (Z.keepS hs) (Z.Yd.fieldA (m := 4) rfl (by kernel_rfl)) ?_
  refine Z.l rfl rfl (by rfl) (Z.keepS hs) (by first | exact Z.Yd.load rfl Try.isAgg3 (fun _ => Z.cellB (by first | ((repeat (first | exact List.mem_cons_self | refine List.mem_cons_of_mem _ ?_ | refine List.mem_append_right _ ?_)); done) | fail) rfl) | exact Z.Yd.load rfl Try.isAgg3 (fun _ => Z.cellO (by assumption) (by simp) (by assumption)) | fail "load 1.35") ?_
  refine Z.lb 3 rfl ?_
  refine Z.l rfl rfl (by rfl) (Z.keepS hs) (Z.Yd.fieldA (m := 4) rfl (by kernel_rfl)) ?_
  refine Z.l rfl rfl (by rfl) (Z.keepS hs) (by first | exact Z.Yd.load rfl Try.isAgg3 (fun _ => Z.cellB (by first | ((repeat (first | exact List.mem_cons_self | refine List.mem_cons_of_mem _ ?_ | refine List.mem_append_right _ ?_)); done) | fail) rfl) | exact Z.Yd.load rfl Try.isAgg3 (fun _ => Z.cellO (by assumption) (by simp) (by assumption)) | fail "load 1.40") ?_
  refine Z.lb 3 rfl ?_
  refine Z.lnil ?_
  refine Z.only [2] rfl ?_
  refine Z.nthen ?_
  refine Z.ret ?_
  -- ret#0
  refine Z.out1 (by exact ⟨rfl, trivial⟩) ?_
  exact ⟨_, rfl, by congr 1; rw [Bool.eq_iff_iff]; simp only [Bool.and_eq_true, decide_eq_true_eq]; unfold AcV.cfg newV; simp only; omega, hs.sub (List.nil_sublist _)⟩
theorem acr_resolve (m : AcV) (t lc : Int) (A : Option Addr) (n c : Nat) (l : List Int) (w : World) (hm : m.ok) (hx : Sl w A (ints .u8 l)) (hl : l.length = n) (hn : n ≤ 9223372036854775807) (hb : Byts l) :
    Calls Try.prog 46 #[.agg m.cells.toArray, .int .i64 t, .agg #[.int .i64 lc, .slice A n c]] w (SX.Ret fun v w' => v = .tuple #[.agg (resolveV m t lc l).1.cells.toArray, .bool (resolveV m t lc l).2.1, .int .i64 (resolveV m t lc l).2.2] ∧ SX.St w [] w' []) := by
  have hs := SX.St.start w
  show Calls Try.prog 46 #[.agg #[.int .u64 (m).id, .int .i64 (m).rnt, .int .i64 (m).win, .int .i64 (m).con, .int .i64 (m).max, .int .i64 (m).st, .int .i64 (m).now, .int .i64 (m).due, .int .i64 (m).frm, .int .i64 (m).pre, .int .i64 (m).att, .int .i64 (m).bnd, .int .i64 (m).rn], .int .i64 t, .agg #[.int .i64 lc, .slice A n c]] w _
  have hone := ac_one (tickR m t)
  by_cases ht : okT t
  · have e1 : tickR m t = tickV m t := if_pos ht
    have e2 : tickE t = 0 := if_pos ht
    have e3 : resolveV m t lc l = if idE lc l = 0 then (if (tickV m t).st = 3 then (if lc = msgC (tickV m t) ∧ l = msgL (tickV m t) then ({ tickV m t with st := 4, due := -1 }, true, 0) else (failV (tickV m t), false, 0)) else (tickV m t, false, 8)) else (m, false, idE lc l) := if_pos ht
    have hbk := hm.tick ht
    have hone2 := ac_one (failV (tickV m t))
    have hml := msgL_len (tickV m t)
    have hmb := msgL_by (tickV m t)
    rw [e1] at hone
    rw [e3]
    obtain ⟨b, hb0⟩ : ∃ b, b = tickV m t := ⟨_, rfl⟩
    rw [← hb0] at hone e1 hbk hone2 hml hmb ⊢
    refine Z.enter Try.func46 rfl Try.ntmps46 rfl rfl ?_
    refine Z.seq ?_
    refine Z.region ?_
    refine Z.le rfl trivial ?_
    refine Z.ZO.box rfl rfl (by rfl) rfl rfl hs ?_
    clear hs; intro g3 w3 hs
    refine Z.le rfl trivial ?_
    refine Z.ZO.box rfl rfl (by rfl) rfl rfl hs ?_
    clear hs; intro g5 w5 hs
    refine Z.le rfl trivial ?_
    refine Z.ZO.alloc rfl rfl (by rfl) Try.zeroValue51 rfl hs ?_
    clear hs; intro g6 w6 hs
    refine Z.lb 2 rfl ?_
    refine Z.lnil ?_
    refine Z.only [1, 3, 5, 6] rfl ?_
    refine Z.nthen ?_
    refine Z.seq ?_
    refine Z.region ?_
    refine Z.l rfl rfl (by rfl) (Z.keepS hs) (by first | exact Z.Yd.loadA _ rfl Try.isAgg51 (fun _ => Z.cellsB (by first | ((repeat (first | exact List.mem_cons_self | refine List.mem_cons_of_mem _ ?_ | refine List.mem_append_right _ ?_)); done) | fail)) (by exact Try.sizeOf51) | fail "load 1.0") ?_
    refine Z.lb 1 rfl ?_
    refine Z.le rfl trivial ?_
    refine Z.ZO.call rfl rfl (by rfl) rfl rfl Try.call47 rfl (acr_tick m t _ hm) ?_
    rintro v1_2 w1_2 ⟨rfl, hy⟩
    replace hs := hs.call hy
    clear hy
    try simp only [List.cons_append, List.nil_append, List.append_nil] at hs
    rw [e1, e2]
    refine Z.lb 3 rfl ?_
    refine Z.le rfl trivial ?_
    refine Z.ZO.alloc rfl rfl (by rfl) Try.zeroValue51 rfl hs ?_
    clear hs; intro g9 w9 hs
    refine Z.le rfl trivial ?_
    first | refine Z.ZO.storeA rfl rfl hs rfl rfl (by kernel_rfl) (by first | (simp [Value.oneCell']; done) | (refine Z.all_one ?_; assumption)) (by first | exact SX.at0 | exact SX.at1 | exact SX.at2 | exact SX.at3 | exact SX.at4 | exact SX.at5 | exact Z.at6 | exact Z.at7 | exact Z.at8 | exact Z.at9 | exact Z.at10 | exact Z.at11 | exact Z.at12) (by rfl) ?_ | refine Z.ZO.storeP rfl rfl hs rfl rfl (by kernel_rfl) (by first | (simp [Value.oneCell']; done) | (refine Z.all_one ?_; assumption)) (by first | exact SX.at0 | exact SX.at1 | exact SX.at2 | exact SX.at3 | exact SX.at4 | exact SX.at5 | exact Z.at6 | exact Z.at7 | exact Z.at8 | exact Z.at9 | exact Z.at10 | exact Z.at11 | exact Z.at12) (by first | decide | (simp; done) | (simp; omega)) ?_ | refine Z.ZO.storePR rfl rfl hs rfl rfl (by kernel_rfl) (by first | (simp [Value.oneCell']; done) | (refine Z.all_one ?_; assumption)) (by first | exact SX.at0 | exact SX.at1 | exact SX.at2 | exact SX.at3 | exact SX.at4 | exact SX.at5 | exact Z.at6 | exact Z.at7 | exact Z.at8 | exact Z.at9 | exact Z.at10 | exact Z.at11 | exact Z.at12) (by first | decide | (simp; done) | (simp; omega)) ?_
    clear hs; intro ws hs
    simp only [Nat.zero_add, Nat.add_zero, Nat.reduceAdd, Int.reduceToNat, Nat.reduceMul, List.set_cons_zero, List.set_cons_succ, List.setIfInBounds_toArray] at hs
    try simp only [Z.putL, Nat.zero_add] at hs
    refine Z.lb 1 rfl ?_
    refine Z.lnil ?_
    refine Z.only [3, 5, 6, 9, 10] rfl ?_
    refine Z.nthen ?_
    refine Z.seq ?_
    refine Z.seq ?_
    refine Z.region ?_
    replace hs : SX.St w [] _ [SX.Ent.blk g9 51 #[.int .u64 (b).id, .int .i64 (b).rnt, .int .i64 (b).win, .int .i64 (b).con, .int .i64 (b).max, .int .i64 (b).st, .int .i64 (b).now, .int .i64 (b).due, .int .i64 (b).frm, .int .i64 (b).pre, .int .i64 (b).att, .int .i64 (b).bnd, .int .i64 (b).rn], _, _, _] := hs
    refine Z.l rfl rfl (by rfl) (Z.keepS hs) (Z.Yd.pure rfl) ?_
    refine Z.lb 1 rfl ?_
    refine Z.lnil ?_
    refine Z.only [3, 5, 6, 9, 10, 20] rfl ?_
    refine Z.nthen ?_
    refine Z.cond rfl (fun h => absurd h (by simp)) (fun hc2 => ?_)
    refine Z.skip ?_
    refine Z.nthen ?_
    refine Z.seq ?_
    refine Z.region ?_
    refine Z.l rfl rfl (by rfl) (Z.keepS hs) (by first | exact Z.Yd.loadA _ rfl Try.isAgg40 (fun _ => Z.cellsB (by first | ((repeat (first | exact List.mem_cons_self | refine List.mem_cons_of_mem _ ?_ | refine List.mem_append_right _ ?_)); done) | fail)) (by exact Try.sizeOf40) | fail "load 4.0") ?_
    refine Z.le rfl trivial ?_
    refine Z.ZO.call rfl rfl (by rfl) rfl rfl Try.call59 rfl (rdecid24 lc A n c l _ (hx.st (hs.sub (List.nil_sublist _))) hl hn hb) ?_
    rintro v4_1 w4_1 ⟨rfl, hy⟩
    replace hs := hs.call hy
    clear hy
    try simp only [List.cons_append, List.nil_append, List.append_nil] at hs
    refine Z.lb 5 rfl ?_
    refine Z.lnil ?_
    refine Z.only [3, 5, 6, 9, 12] rfl ?_
    refine Z.nthen ?_
    refine Z.seq ?_
    refine Z.seq ?_
    refine Z.region ?_
    refine Z.lb 2 rfl ?_
    refine Z.lnil ?_
    refine Z.only [3, 5, 6, 9, 12, 29] rfl ?_
    refine Z.nthen ?_
    refine Z.cond rfl (fun hc5 => ?_) (fun hc5 => ?_)
    · first
        | (exfalso; simp at hc5 <;> omega)
        | (
          (try simp at hc5)
          rw [if_neg (by assumption)]
          refine Z.seq ?_
          refine Z.region ?_
          refine Z.l rfl rfl (by rfl) (Z.keepS hs) (by first | exact Z.Yd.loadA _ rfl Try.isAgg51 (fun _ => Z.cellsB (by first | ((repeat (first | exact List.mem_cons_self | refine List.mem_cons_of_mem _ ?_ | refine List.mem_append_right _ ?_)); done) | fail)) (by exact Try.sizeOf51) | fail "load 6.0") ?_
          refine Z.lb 1 rfl ?_
          refine Z.le rfl trivial ?_
          first | refine Z.ZO.storeA rfl rfl hs rfl rfl (by kernel_rfl) (by first | (simp [Value.oneCell']; done) | (refine Z.all_one ?_; assumption)) (by first | exact SX.at0 | exact SX.at1 | exact SX.at2 | exact SX.at3 | exact SX.at4 | exact SX.at5 | exact Z.at6 | exact Z.at7 | exact Z.at8 | exact Z.at9 | exact Z.at10 | exact Z.at11 | exact Z.at12) (by rfl) ?_ | refine Z.ZO.storeP rfl rfl hs rfl rfl (by kernel_rfl) (by first | (simp [Value.oneCell']; done) | (refine Z.all_one ?_; assumption)) (by first | exact SX.at0 | exact SX.at1 | exact SX.at2 | exact SX.at3 | exact SX.at4 | exact SX.at5 | exact Z.at6 | exact Z.at7 | exact Z.at8 | exact Z.at9 | exact Z.at10 | exact Z.at11 | exact Z.at12) (by first | decide | (simp; done) | (simp; omega)) ?_ | refine Z.ZO.storePR rfl rfl hs rfl rfl (by kernel_rfl) (by first | (simp [Value.oneCell']; done) | (refine Z.all_one ?_; assumption)) (by first | exact SX.at0 | exact SX.at1 | exact SX.at2 | exact SX.at3 | exact SX.at4 | exact SX.at5 | exact Z.at6 | exact Z.at7 | exact Z.at8 | exact Z.at9 | exact Z.at10 | exact Z.at11 | exact Z.at12) (by first | decide | (simp; done) | (simp; omega)) ?_
          clear hs; intro ws hs
          simp only [Nat.zero_add, Nat.add_zero, Nat.reduceAdd, Int.reduceToNat, Nat.reduceMul, List.set_cons_zero, List.set_cons_succ, List.setIfInBounds_toArray] at hs
          try simp only [Z.putL, Nat.zero_add] at hs
          refine Z.lb 2 rfl ?_
          refine Z.lnil ?_
          refine Z.only [6, 7, 8] rfl ?_
          refine Z.nthen ?_
          refine Z.ret ?_
          repeat (first | refine Z.rthen ?_ | refine Z.rblock ?_ | refine Z.rscope ?_)
          -- ret#0
          refine Z.out3 (by exact ⟨⟨_, rfl, Z.rvcA hs Try.isAgg51 (by first | ((repeat (first | exact List.mem_cons_self | refine List.mem_cons_of_mem _ ?_ | refine List.mem_append_right _ ?_)); done) | fail) (by exact Try.sizeOf51)⟩, rfl, rfl, trivial⟩) ?_
          exact ⟨_, rfl, rfl, hs.sub (List.nil_sublist _)⟩
          )
    · first
        | (exfalso; simp at hc5 <;> omega)
        | (
          (try simp at hc5)
          rw [if_pos (by assumption)]
          refine Z.skip ?_
          refine Z.nthen ?_
          refine Z.seq ?_
          refine Z.seq ?_
          refine Z.region ?_
          refine Z.l rfl rfl (by rfl) (Z.keepS hs) (Z.Yd.fieldA (m := 5) rfl (by kernel_rfl)) ?_
          refine Z.l rfl rfl (by rfl) (Z.keepS hs) (by first | exact Z.Yd.load rfl Try.isAgg44 (fun _ => Z.cellB (by first | ((repeat (first | exact List.mem_cons_self | refine List.mem_cons_of_mem _ ?_ | refine List.mem_append_right _ ?_)); done) | fail) rfl) | exact Z.Yd.load rfl Try.isAgg44 (fun _ => Z.cellO (by assumption) (by simp) (by assumption)) | fail "load 7.1") ?_
          refine Z.lb 1 rfl ?_
          refine Z.lnil ?_
          refine Z.only [5, 6, 9, 34] rfl ?_
          refine Z.nthen ?_
          refine Z.cond rfl (fun hc7 => ?_) (fun hc7 => ?_)
          · first
              | (exfalso; simp at hc7 <;> omega)
              | (
                (try simp at hc7)
                rw [if_neg (by assumption)]
                refine Z.seq ?_
                refine Z.region ?_
                refine Z.l rfl rfl (by rfl) (Z.keepS hs) (by first | exact Z.Yd.loadA _ rfl Try.isAgg51 (fun _ => Z.cellsB (by first | ((repeat (first | exact List.mem_cons_self | refine List.mem_cons_of_mem _ ?_ | refine List.mem_append_right _ ?_)); done) | fail)) (by exact Try.sizeOf51) | fail "load 8.0") ?_
                refine Z.le rfl trivial ?_
                first | refine Z.ZO.storeA rfl rfl hs rfl rfl (by kernel_rfl) (by first | (simp [Value.oneCell']; done) | (refine Z.all_one ?_; assumption)) (by first | exact SX.at0 | exact SX.at1 | exact SX.at2 | exact SX.at3 | exact SX.at4 | exact SX.at5 | exact Z.at6 | exact Z.at7 | exact Z.at8 | exact Z.at9 | exact Z.at10 | exact Z.at11 | exact Z.at12) (by rfl) ?_ | refine Z.ZO.storeP rfl rfl hs rfl rfl (by kernel_rfl) (by first | (simp [Value.oneCell']; done) | (refine Z.all_one ?_; assumption)) (by first | exact SX.at0 | exact SX.at1 | exact SX.at2 | exact SX.at3 | exact SX.at4 | exact SX.at5 | exact Z.at6 | exact Z.at7 | exact Z.at8 | exact Z.at9 | exact Z.at10 | exact Z.at11 | exact Z.at12) (by first | decide | (simp; done) | (simp; omega)) ?_ | refine Z.ZO.storePR rfl rfl hs rfl rfl (by kernel_rfl) (by first | (simp [Value.oneCell']; done) | (refine Z.all_one ?_; assumption)) (by first | exact SX.at0 | exact SX.at1 | exact SX.at2 | exact SX.at3 | exact SX.at4 | exact SX.at5 | exact Z.at6 | exact Z.at7 | exact Z.at8 | exact Z.at9 | exact Z.at10 | exact Z.at11 | exact Z.at12) (by first | decide | (simp; done) | (simp; omega)) ?_
                clear hs; intro ws hs
                simp only [Nat.zero_add, Nat.add_zero, Nat.reduceAdd, Int.reduceToNat, Nat.reduceMul, List.set_cons_zero, List.set_cons_succ, List.setIfInBounds_toArray] at hs
                try simp only [Z.putL, Nat.zero_add] at hs
                refine Z.lb 2 rfl ?_
                refine Z.lnil ?_
                refine Z.only [6, 7, 8] rfl ?_
                refine Z.nthen ?_
                refine Z.ret ?_
                repeat (first | refine Z.rthen ?_ | refine Z.rblock ?_ | refine Z.rscope ?_)
                -- ret#1
                refine Z.out3 (by exact ⟨⟨_, rfl, Z.rvcA hs Try.isAgg51 (by first | ((repeat (first | exact List.mem_cons_self | refine List.mem_cons_of_mem _ ?_ | refine List.mem_append_right _ ?_)); done) | fail) (by exact Try.sizeOf51)⟩, rfl, rfl, trivial⟩) ?_
                exact ⟨_, rfl, rfl, hs.sub (List.nil_sublist _)⟩
                )
          · first
              | (exfalso; simp at hc7 <;> omega)
              | (
                (try simp at hc7)
                rw [if_pos (by assumption)]
                refine Z.skip ?_
                refine Z.nthen ?_
                refine Z.seq ?_
                refine Z.seq ?_
                refine Z.drawK (fun _ => true) mixed hs ?_
                clear hs; intro wd9 hs
                refine Z.t 0 rfl rfl rfl (by rfl) (by kernel_rfl) ⟨_, hs, by first | (simp; done) | exact fun e he => List.mem_append_right _ he⟩ (by first | exact Z.Yd.loadA _ rfl Try.isAgg51 (fun _ => Z.cellsB (by first | ((repeat (first | exact List.mem_cons_self | refine List.mem_cons_of_mem _ ?_ | refine List.mem_append_right _ ?_)); done) | fail)) (by exact Try.sizeOf51) | fail "load 9.0") ?_
                refine Z.t 2 rfl rfl rfl (by rfl) (by kernel_rfl) ⟨_, hs, by first | (simp; done) | exact fun e he => List.mem_append_right _ he⟩ (by first | exact Z.Yd.loadA _ rfl Try.isAgg40 (fun _ => Z.cellsB (by first | ((repeat (first | exact List.mem_cons_self | refine List.mem_cons_of_mem _ ?_ | refine List.mem_append_right _ ?_)); done) | fail)) (by exact Try.sizeOf40) | fail "load 9.2") ?_
                refine Z.tn 1 rfl rfl (by kernel_rfl) rfl trivial ?_
                refine Z.ZO.call rfl rfl (by rfl) rfl rfl Try.call42 rfl (acr_message b _ hbk.cfg) ?_
                rintro v9_1 w9_1 ⟨B, cc, co, rfl, hy⟩
                replace hs := hs.call hy
                clear hy
                try simp only [List.cons_append, List.nil_append, List.append_nil] at hs
                refine Z.tk (Dn := fun _ => true) (i := 1) (fun _ => ⟨_, hs, by first | (simp; done) | exact fun e he => List.mem_append_right _ he⟩) ?_
                refine Z.tn 3 rfl rfl (by kernel_rfl) rfl trivial ?_
                refine Z.ZO.call rfl rfl (by rfl) rfl rfl Try.call26 rfl (acr_same (msgC b) lc B A _ cc n c (msgL b) l _ (hs.slm (A := B) (by first | ((repeat (first | exact List.mem_cons_self | refine List.mem_cons_of_mem _ ?_ | refine List.mem_append_right _ ?_)); done) | fail)) (hx.st (hs.sub (List.nil_sublist _))) rfl hl hmb hb) ?_
                rintro v9_3 w9_3 ⟨rfl, hy⟩
                replace hs := hs.call hy
                clear hy
                try simp only [List.cons_append, List.nil_append, List.append_nil] at hs
                refine Z.tk (Dn := fun _ => true) (i := 3) (fun _ => ⟨_, hs, by first | (simp; done) | exact fun e he => List.mem_append_right _ he⟩) ?_
                refine Z.tb [4] (by kernel_rfl) rfl ⟨_, hs, by first | (simp; done) | exact fun e he => List.mem_append_right _ he⟩ rfl ?_
                refine Z.td (by rfl) (by kernel_rfl) ?_
                refine Z.only [6, 9, 40] rfl ?_
                refine Z.nthen ?_
                refine Z.cond rfl (fun hc9 => ?_) (fun hc9 => ?_)
                · first
                    | (exfalso; simp at hc9 <;> omega)
                    | (
                      (try simp at hc9)
                      rw [if_neg (fun h => absurd h.2.symm (by have h1 := h.1.symm; simp_all))]
                      refine Z.seq ?_
                      refine Z.region ?_
                      refine Z.l rfl rfl (by rfl) (Z.keepS hs) (by first | exact Z.Yd.loadA _ rfl Try.isAgg51 (fun _ => Z.cellsB (by first | ((repeat (first | exact List.mem_cons_self | refine List.mem_cons_of_mem _ ?_ | refine List.mem_append_right _ ?_)); done) | fail)) (by exact Try.sizeOf51) | fail "load 10.0") ?_
                      refine Z.le rfl trivial ?_
                      refine Z.ZO.call rfl rfl (by rfl) rfl rfl Try.call58 rfl (acr_fail b _ hbk) ?_
                      rintro v10_1 w10_1 ⟨rfl, hy⟩
                      replace hs := hs.call hy
                      clear hy
                      try simp only [List.cons_append, List.nil_append, List.append_nil] at hs
                      refine Z.le rfl trivial ?_
                      first | refine Z.ZO.storeA rfl rfl hs rfl rfl (by kernel_rfl) (by first | (simp [Value.oneCell']; done) | (refine Z.all_one ?_; assumption)) (by first | exact SX.at0 | exact SX.at1 | exact SX.at2 | exact SX.at3 | exact SX.at4 | exact SX.at5 | exact Z.at6 | exact Z.at7 | exact Z.at8 | exact Z.at9 | exact Z.at10 | exact Z.at11 | exact Z.at12) (by rfl) ?_ | refine Z.ZO.storeP rfl rfl hs rfl rfl (by kernel_rfl) (by first | (simp [Value.oneCell']; done) | (refine Z.all_one ?_; assumption)) (by first | exact SX.at0 | exact SX.at1 | exact SX.at2 | exact SX.at3 | exact SX.at4 | exact SX.at5 | exact Z.at6 | exact Z.at7 | exact Z.at8 | exact Z.at9 | exact Z.at10 | exact Z.at11 | exact Z.at12) (by first | decide | (simp; done) | (simp; omega)) ?_ | refine Z.ZO.storePR rfl rfl hs rfl rfl (by kernel_rfl) (by first | (simp [Value.oneCell']; done) | (refine Z.all_one ?_; assumption)) (by first | exact SX.at0 | exact SX.at1 | exact SX.at2 | exact SX.at3 | exact SX.at4 | exact SX.at5 | exact Z.at6 | exact Z.at7 | exact Z.at8 | exact Z.at9 | exact Z.at10 | exact Z.at11 | exact Z.at12) (by first | decide | (simp; done) | (simp; omega)) ?_
                      clear hs; intro ws hs
                      simp only [Nat.zero_add, Nat.add_zero, Nat.reduceAdd, Int.reduceToNat, Nat.reduceMul, List.set_cons_zero, List.set_cons_succ, List.setIfInBounds_toArray] at hs
                      try simp only [Z.putL, Nat.zero_add] at hs
                      refine Z.lb 2 rfl ?_
                      refine Z.lnil ?_
                      refine Z.only [6, 7, 8] rfl ?_
                      refine Z.nthen ?_
                      refine Z.ret ?_
                      repeat (first | refine Z.rthen ?_ | refine Z.rblock ?_ | refine Z.rscope ?_)
                      -- ret#2
                      refine Z.out3 (by exact ⟨⟨_, rfl, Z.rvcA hs Try.isAgg51 (by first | ((repeat (first | exact List.mem_cons_self | refine List.mem_cons_of_mem _ ?_ | refine List.mem_append_right _ ?_)); done) | fail) (by exact Try.sizeOf51)⟩, rfl, rfl, trivial⟩) ?_
                      exact ⟨_, rfl, rfl, hs.sub (List.nil_sublist _)⟩
                      )
                · first
                    | (exfalso; simp at hc9 <;> omega)
                    | (
                      (try simp at hc9)
                      rw [if_pos (by constructor <;> simp_all)]
                      refine Z.skip ?_
                      refine Z.nthen ?_
                      refine Z.seq ?_
                      refine Z.region ?_
                      refine Z.l rfl rfl (by rfl) (Z.keepS hs) (Z.Yd.fieldA (m := 5) rfl (by kernel_rfl)) ?_
                      refine Z.le rfl trivial ?_
                      first | refine Z.ZO.store rfl rfl hs Try.sizeOf44 rfl rfl rfl (by first | exact SX.at0 | exact SX.at1 | exact SX.at2 | exact SX.at3 | exact SX.at4 | exact SX.at5 | exact Z.at6 | exact Z.at7 | exact Z.at8 | exact Z.at9 | exact Z.at10 | exact Z.at11 | exact Z.at12) (by first | (simp; done) | (simp; omega)) ?_ | refine Z.ZO.storeR rfl rfl hs Try.sizeOf44 rfl rfl rfl (by first | exact SX.at0 | exact SX.at1 | exact SX.at2 | exact SX.at3 | exact SX.at4 | exact SX.at5 | exact Z.at6 | exact Z.at7 | exact Z.at8 | exact Z.at9 | exact Z.at10 | exact Z.at11 | exact Z.at12) (by first | omega | (simp [ints_length]; done) | (simp [ints_length]; omega)) ?_
                      clear hs; intro ws hs
                      simp only [Nat.zero_add, Nat.add_zero, Nat.reduceAdd, Int.reduceToNat, Nat.reduceMul, List.set_cons_zero, List.set_cons_succ, List.setIfInBounds_toArray] at hs
                      refine Z.l rfl rfl (by rfl) (Z.keepS hs) (Z.Yd.fieldA (m := 7) rfl (by kernel_rfl)) ?_
                      refine Z.le rfl trivial ?_
                      first | refine Z.ZO.store rfl rfl hs Try.sizeOf3 rfl rfl rfl (by first | exact SX.at0 | exact SX.at1 | exact SX.at2 | exact SX.at3 | exact SX.at4 | exact SX.at5 | exact Z.at6 | exact Z.at7 | exact Z.at8 | exact Z.at9 | exact Z.at10 | exact Z.at11 | exact Z.at12) (by first | (simp; done) | (simp; omega)) ?_ | refine Z.ZO.storeR rfl rfl hs Try.sizeOf3 rfl rfl rfl (by first | exact SX.at0 | exact SX.at1 | exact SX.at2 | exact SX.at3 | exact SX.at4 | exact SX.at5 | exact Z.at6 | exact Z.at7 | exact Z.at8 | exact Z.at9 | exact Z.at10 | exact Z.at11 | exact Z.at12) (by first | omega | (simp [ints_length]; done) | (simp [ints_length]; omega)) ?_
                      clear hs; intro ws hs
                      simp only [Nat.zero_add, Nat.add_zero, Nat.reduceAdd, Int.reduceToNat, Nat.reduceMul, List.set_cons_zero, List.set_cons_succ, List.setIfInBounds_toArray] at hs
                      refine Z.lnil ?_
                      refine Z.only [6, 9] rfl ?_
                      refine Z.nthen ?_
                      refine Z.seq ?_
                      refine Z.region ?_
                      refine Z.l rfl rfl (by rfl) (Z.keepS hs) (by first | exact Z.Yd.loadA _ rfl Try.isAgg51 (fun _ => Z.cellsB (by first | ((repeat (first | exact List.mem_cons_self | refine List.mem_cons_of_mem _ ?_ | refine List.mem_append_right _ ?_)); done) | fail)) (by exact Try.sizeOf51) | fail "load 12.0") ?_
                      refine Z.le rfl trivial ?_
                      first | refine Z.ZO.storeA rfl rfl hs rfl rfl (by kernel_rfl) (by first | (simp [Value.oneCell']; done) | (refine Z.all_one ?_; assumption)) (by first | exact SX.at0 | exact SX.at1 | exact SX.at2 | exact SX.at3 | exact SX.at4 | exact SX.at5 | exact Z.at6 | exact Z.at7 | exact Z.at8 | exact Z.at9 | exact Z.at10 | exact Z.at11 | exact Z.at12) (by rfl) ?_ | refine Z.ZO.storeP rfl rfl hs rfl rfl (by kernel_rfl) (by first | (simp [Value.oneCell']; done) | (refine Z.all_one ?_; assumption)) (by first | exact SX.at0 | exact SX.at1 | exact SX.at2 | exact SX.at3 | exact SX.at4 | exact SX.at5 | exact Z.at6 | exact Z.at7 | exact Z.at8 | exact Z.at9 | exact Z.at10 | exact Z.at11 | exact Z.at12) (by first | decide | (simp; done) | (simp; omega)) ?_ | refine Z.ZO.storePR rfl rfl hs rfl rfl (by kernel_rfl) (by first | (simp [Value.oneCell']; done) | (refine Z.all_one ?_; assumption)) (by first | exact SX.at0 | exact SX.at1 | exact SX.at2 | exact SX.at3 | exact SX.at4 | exact SX.at5 | exact Z.at6 | exact Z.at7 | exact Z.at8 | exact Z.at9 | exact Z.at10 | exact Z.at11 | exact Z.at12) (by first | decide | (simp; done) | (simp; omega)) ?_
                      clear hs; intro ws hs
                      simp only [Nat.zero_add, Nat.add_zero, Nat.reduceAdd, Int.reduceToNat, Nat.reduceMul, List.set_cons_zero, List.set_cons_succ, List.setIfInBounds_toArray] at hs
                      try simp only [Z.putL, Nat.zero_add] at hs
                      refine Z.lb 2 rfl ?_
                      refine Z.lnil ?_
                      refine Z.only [6, 7, 8] rfl ?_
                      refine Z.nthen ?_
                      refine Z.ret ?_
                      -- ret#3
                      refine Z.out3 (by exact ⟨⟨_, rfl, Z.rvcA hs Try.isAgg51 (by first | ((repeat (first | exact List.mem_cons_self | refine List.mem_cons_of_mem _ ?_ | refine List.mem_append_right _ ?_)); done) | fail) (by exact Try.sizeOf51)⟩, rfl, rfl, trivial⟩) ?_
                      exact ⟨_, rfl, rfl, hs.sub (List.nil_sublist _)⟩
                      )
                )
          )
  · have e1 : tickR m t = m := if_neg ht
    have e2 : tickE t = 2 := if_neg ht
    have e3 : resolveV m t lc l = (m, false, 2) := if_neg ht
    rw [e1] at hone
    rw [e3]
    refine Z.enter Try.func46 rfl Try.ntmps46 rfl rfl ?_
    refine Z.seq ?_
    refine Z.region ?_
    refine Z.le rfl trivial ?_
    refine Z.ZO.box rfl rfl (by rfl) rfl rfl hs ?_
    clear hs; intro g3 w3 hs
    refine Z.le rfl trivial ?_
    refine Z.ZO.box rfl rfl (by rfl) rfl rfl hs ?_
    clear hs; intro g5 w5 hs
    refine Z.le rfl trivial ?_
    refine Z.ZO.alloc rfl rfl (by rfl) Try.zeroValue51 rfl hs ?_
    clear hs; intro g6 w6 hs
    refine Z.lb 2 rfl ?_
    refine Z.lnil ?_
    refine Z.only [1, 3, 5, 6] rfl ?_
    refine Z.nthen ?_
    refine Z.seq ?_
    refine Z.region ?_
    refine Z.l rfl rfl (by rfl) (Z.keepS hs) (by first | exact Z.Yd.loadA _ rfl Try.isAgg51 (fun _ => Z.cellsB (by first | ((repeat (first | exact List.mem_cons_self | refine List.mem_cons_of_mem _ ?_ | refine List.mem_append_right _ ?_)); done) | fail)) (by exact Try.sizeOf51) | fail "load 1.0") ?_
    refine Z.lb 1 rfl ?_
    refine Z.le rfl trivial ?_
    refine Z.ZO.call rfl rfl (by rfl) rfl rfl Try.call47 rfl (acr_tick m t _ hm) ?_
    rintro v1_2 w1_2 ⟨rfl, hy⟩
    replace hs := hs.call hy
    clear hy
    try simp only [List.cons_append, List.nil_append, List.append_nil] at hs
    rw [e1, e2]
    refine Z.lb 3 rfl ?_
    refine Z.le rfl trivial ?_
    refine Z.ZO.alloc rfl rfl (by rfl) Try.zeroValue51 rfl hs ?_
    clear hs; intro g9 w9 hs
    refine Z.le rfl trivial ?_
    first | refine Z.ZO.storeA rfl rfl hs rfl rfl (by kernel_rfl) (by first | (simp [Value.oneCell']; done) | (refine Z.all_one ?_; assumption)) (by first | exact SX.at0 | exact SX.at1 | exact SX.at2 | exact SX.at3 | exact SX.at4 | exact SX.at5 | exact Z.at6 | exact Z.at7 | exact Z.at8 | exact Z.at9 | exact Z.at10 | exact Z.at11 | exact Z.at12) (by rfl) ?_ | refine Z.ZO.storeP rfl rfl hs rfl rfl (by kernel_rfl) (by first | (simp [Value.oneCell']; done) | (refine Z.all_one ?_; assumption)) (by first | exact SX.at0 | exact SX.at1 | exact SX.at2 | exact SX.at3 | exact SX.at4 | exact SX.at5 | exact Z.at6 | exact Z.at7 | exact Z.at8 | exact Z.at9 | exact Z.at10 | exact Z.at11 | exact Z.at12) (by first | decide | (simp; done) | (simp; omega)) ?_ | refine Z.ZO.storePR rfl rfl hs rfl rfl (by kernel_rfl) (by first | (simp [Value.oneCell']; done) | (refine Z.all_one ?_; assumption)) (by first | exact SX.at0 | exact SX.at1 | exact SX.at2 | exact SX.at3 | exact SX.at4 | exact SX.at5 | exact Z.at6 | exact Z.at7 | exact Z.at8 | exact Z.at9 | exact Z.at10 | exact Z.at11 | exact Z.at12) (by first | decide | (simp; done) | (simp; omega)) ?_
    clear hs; intro ws hs
    simp only [Nat.zero_add, Nat.add_zero, Nat.reduceAdd, Int.reduceToNat, Nat.reduceMul, List.set_cons_zero, List.set_cons_succ, List.setIfInBounds_toArray] at hs
    try simp only [Z.putL, Nat.zero_add] at hs
    refine Z.lb 1 rfl ?_
    refine Z.lnil ?_
    refine Z.only [3, 5, 6, 9, 10] rfl ?_
    refine Z.nthen ?_
    refine Z.seq ?_
    refine Z.seq ?_
    refine Z.region ?_
    refine Z.lb 2 rfl ?_
    refine Z.lnil ?_
    refine Z.only [3, 5, 6, 9, 10, 20] rfl ?_
    refine Z.nthen ?_
    refine Z.cond rfl (fun hc2 => ?_) (fun h => absurd h (by simp))
    refine Z.seq ?_
    refine Z.region ?_
    refine Z.l rfl rfl (by rfl) (Z.keepS hs) (by first | exact Z.Yd.loadA _ rfl Try.isAgg51 (fun _ => Z.cellsB (by first | ((repeat (first | exact List.mem_cons_self | refine List.mem_cons_of_mem _ ?_ | refine List.mem_append_right _ ?_)); done) | fail)) (by exact Try.sizeOf51) | fail "load 3.0") ?_
    refine Z.lb 1 rfl ?_
    refine Z.le rfl trivial ?_
    first | refine Z.ZO.storeA rfl rfl hs rfl rfl (by kernel_rfl) (by first | (simp [Value.oneCell']; done) | (refine Z.all_one ?_; assumption)) (by first | exact SX.at0 | exact SX.at1 | exact SX.at2 | exact SX.at3 | exact SX.at4 | exact SX.at5 | exact Z.at6 | exact Z.at7 | exact Z.at8 | exact Z.at9 | exact Z.at10 | exact Z.at11 | exact Z.at12) (by rfl) ?_ | refine Z.ZO.storeP rfl rfl hs rfl rfl (by kernel_rfl) (by first | (simp [Value.oneCell']; done) | (refine Z.all_one ?_; assumption)) (by first | exact SX.at0 | exact SX.at1 | exact SX.at2 | exact SX.at3 | exact SX.at4 | exact SX.at5 | exact Z.at6 | exact Z.at7 | exact Z.at8 | exact Z.at9 | exact Z.at10 | exact Z.at11 | exact Z.at12) (by first | decide | (simp; done) | (simp; omega)) ?_ | refine Z.ZO.storePR rfl rfl hs rfl rfl (by kernel_rfl) (by first | (simp [Value.oneCell']; done) | (refine Z.all_one ?_; assumption)) (by first | exact SX.at0 | exact SX.at1 | exact SX.at2 | exact SX.at3 | exact SX.at4 | exact SX.at5 | exact Z.at6 | exact Z.at7 | exact Z.at8 | exact Z.at9 | exact Z.at10 | exact Z.at11 | exact Z.at12) (by first | decide | (simp; done) | (simp; omega)) ?_
    clear hs; intro ws hs
    simp only [Nat.zero_add, Nat.add_zero, Nat.reduceAdd, Int.reduceToNat, Nat.reduceMul, List.set_cons_zero, List.set_cons_succ, List.setIfInBounds_toArray] at hs
    try simp only [Z.putL, Nat.zero_add] at hs
    refine Z.lb 2 rfl ?_
    refine Z.lnil ?_
    refine Z.only [6, 7, 8] rfl ?_
    refine Z.nthen ?_
    refine Z.ret ?_
    repeat (first | refine Z.rthen ?_ | refine Z.rblock ?_ | refine Z.rscope ?_)
    -- ret#0
    refine Z.out3 (by exact ⟨⟨_, rfl, Z.rvcA hs Try.isAgg51 (by first | ((repeat (first | exact List.mem_cons_self | refine List.mem_cons_of_mem _ ?_ | refine List.mem_append_right _ ?_)); done) | fail) (by exact Try.sizeOf51)⟩, rfl, rfl, trivial⟩) ?_
    exact ⟨_, rfl, rfl, hs.sub (List.nil_sublist _)⟩
end Go.Proofs.Ytjgfooakcljddaa
