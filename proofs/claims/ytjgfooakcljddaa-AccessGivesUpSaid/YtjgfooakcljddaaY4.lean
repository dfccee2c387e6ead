/- Part 4 of the proofs that lead to the statement. -/
import Derived.Test.YtjgfooakcljddaaY3
/- Random access of a handset: Start, Send, Answer, Tick. -/
namespace Go.Proofs.Ytjgfooakcljddaa
open Go.RowKit
set_option linter.unusedSimpArgs false
set_option linter.unusedVariables false
--newlaws

theorem ac_start1 (g T g2 T2 : Nat) (m : AcV) (w : World) (hs : SX.St w (SX.idsOf [SX.Ent.blk g T m.cells.toArray, SX.Ent.blk g2 T2 #[.pointer (some ⟨g, 0, none⟩)]]) w [SX.Ent.blk g T m.cells.toArray, SX.Ent.blk g2 T2 #[.pointer (some ⟨g, 0, none⟩)]]) :
    Calls Try.prog 30 #[.pointer (some ⟨g2, 0, none⟩)] w (SX.Ret fun v w' => v = .tuple #[.bool true, .int .i64 0] ∧ SX.St w (SX.idsOf [SX.Ent.blk g T m.cells.toArray, SX.Ent.blk g2 T2 #[.pointer (some ⟨g, 0, none⟩)]]) w' [SX.Ent.blk g T ({ m with st := 1, due := m.now, att := 0, bnd := 0 } : AcV).cells.toArray, SX.Ent.blk g2 T2 #[.pointer (some ⟨g, 0, none⟩)]]) := by
  generalize hM : SX.idsOf [SX.Ent.blk g T m.cells.toArray, SX.Ent.blk g2 T2 #[.pointer (some ⟨g, 0, none⟩)]] = M at *
  replace hs : SX.St w M w [SX.Ent.blk g T #[.int .u64 (m).id, .int .i64 (m).rnt, .int .i64 (m).win, .int .i64 (m).con, .int .i64 (m).max, .int .i64 (m).st, .int .i64 (m).now, .int .i64 (m).due, .int .i64 (m).frm, .int .i64 (m).pre, .int .i64 (m).att, .int .i64 (m).bnd, .int .i64 (m).rn], SX.Ent.blk g2 T2 #[.pointer (some ⟨g, 0, none⟩)]] := hs
  refine Z.enter Try.func30 rfl Try.ntmps30 rfl rfl ?_
  refine Z.seq ?_
  refine Z.region ?_
  refine Z.lb 2 rfl ?_
  refine Z.lnil ?_
  refine Z.only [0] rfl ?_
  refine Z.nthen ?_
  refine Z.seq ?_
  refine Z.drawL [SX.Ent.blk g2 T2 #[.pointer (some ⟨g, 0, none⟩)]] (fun j => j != 7) mixed hs ?_
  clear hs; intro wd1 hs
  refine Z.t 0 rfl rfl rfl (by rfl) (by kernel_rfl) ⟨_, hs, by first | (simp; done) | exact fun e he => List.mem_append_right _ he⟩ (by first | exact Z.Yd.load rfl Try.isAgg25 (fun _ => Z.cellB (by first | ((repeat (first | exact List.mem_cons_self | refine List.mem_cons_of_mem _ ?_ | refine List.mem_append_right _ ?_)); done) | fail) rfl) | exact Z.Yd.load rfl Try.isAgg25 (fun _ => Z.cellO (by assumption) (by simp) (by assumption)) | fail "load 1.0") ?_
  refine Z.t 1 rfl rfl rfl (by rfl) (by kernel_rfl) ⟨_, hs, by first | (simp; done) | exact fun e he => List.mem_append_right _ he⟩ (by first | exact Z.Yd.load rfl Try.isAgg25 (fun _ => Z.cellB (by first | ((repeat (first | exact List.mem_cons_self | refine List.mem_cons_of_mem _ ?_ | refine List.mem_append_right _ ?_)); done) | fail) rfl) | exact Z.Yd.load rfl Try.isAgg25 (fun _ => Z.cellO (by assumption) (by simp) (by assumption)) | fail "load 1.1") ?_
  refine Z.t 2 rfl rfl rfl (by rfl) (by kernel_rfl) ⟨_, hs, by first | (simp; done) | exact fun e he => List.mem_append_right _ he⟩ (Z.Yd.nilc rfl rfl) ?_
  refine Z.t 3 rfl rfl rfl (by rfl) (by kernel_rfl) ⟨_, hs, by first | (simp; done) | exact fun e he => List.mem_append_right _ he⟩ (Z.Yd.fieldA (m := 10) rfl (by kernel_rfl)) ?_
  refine Z.tn 4 rfl rfl (by kernel_rfl) rfl trivial ?_
  first | refine Z.ZO.store rfl rfl hs Try.sizeOf3 rfl rfl rfl (by first | exact SX.at0 | exact SX.at1 | exact SX.at2 | exact SX.at3 | exact SX.at4 | exact SX.at5 | exact Z.at6 | exact Z.at7 | exact Z.at8 | exact Z.at9 | exact Z.at10 | exact Z.at11 | exact Z.at12) (by first | (simp; done) | (simp; omega)) ?_ | refine Z.ZO.storeR rfl rfl hs Try.sizeOf3 rfl rfl rfl (by first | exact SX.at0 | exact SX.at1 | exact SX.at2 | exact SX.at3 | exact SX.at4 | exact SX.at5 | exact Z.at6 | exact Z.at7 | exact Z.at8 | exact Z.at9 | exact Z.at10 | exact Z.at11 | exact Z.at12) (by first | omega | (simp [ints_length]; done) | (simp [ints_length]; omega)) ?_
  clear hs; intro ws hs
  simp only [Nat.zero_add, Nat.add_zero, Nat.reduceAdd, Int.reduceToNat, Nat.reduceMul, List.set_cons_zero, List.set_cons_succ, List.setIfInBounds_toArray] at hs
  refine Z.tk (Dn := fun j => j != 7) (i := 4) (fun _ => ⟨_, hs, by first | (simp; done) | exact fun e he => List.mem_append_right _ he⟩) ?_
  refine Z.tn 5 rfl rfl (by kernel_rfl) rfl trivial ?_
  refine Z.ZO.quiet rfl (by rfl) (Z.keepS hs) (Z.Yd.nilc rfl rfl) ?_
  refine Z.tk (Dn := fun j => j != 7) (i := 5) (fun _ => ⟨_, hs, by first | (simp; done) | exact fun e he => List.mem_append_right _ he⟩) ?_
  refine Z.t 6 rfl rfl rfl (by rfl) (by kernel_rfl) ⟨_, hs, by first | (simp; done) | exact fun e he => List.mem_append_right _ he⟩ (Z.Yd.fieldA (m := 11) rfl (by kernel_rfl)) ?_
  refine Z.tn 7 rfl rfl (by kernel_rfl) rfl trivial ?_
  first | refine Z.ZO.store rfl rfl hs Try.sizeOf3 rfl rfl rfl (by first | exact SX.at0 | exact SX.at1 | exact SX.at2 | exact SX.at3 | exact SX.at4 | exact SX.at5 | exact Z.at6 | exact Z.at7 | exact Z.at8 | exact Z.at9 | exact Z.at10 | exact Z.at11 | exact Z.at12) (by first | (simp; done) | (simp; omega)) ?_ | refine Z.ZO.storeR rfl rfl hs Try.sizeOf3 rfl rfl rfl (by first | exact SX.at0 | exact SX.at1 | exact SX.at2 | exact SX.at3 | exact SX.at4 | exact SX.at5 | exact Z.at6 | exact Z.at7 | exact Z.at8 | exact Z.at9 | exact Z.at10 | exact Z.at11 | exact Z.at12) (by first | omega | (simp [ints_length]; done) | (simp [ints_length]; omega)) ?_
  clear hs; intro ws hs
  simp only [Nat.zero_add, Nat.add_zero, Nat.reduceAdd, Int.reduceToNat, Nat.reduceMul, List.set_cons_zero, List.set_cons_succ, List.setIfInBounds_toArray] at hs
  refine Z.tk (Dn := fun j => j != 7) (i := 7) (fun h => absurd h (by decide)) ?_
  refine Z.td (by rfl) (by kernel_rfl) ?_
  refine Z.only [0] rfl ?_
  refine Z.nthen ?_
  refine Z.seq ?_
  refine Z.drawK (fun j => j != 5) mixed hs ?_
  clear hs; intro wd2 hs
  refine Z.t 0 rfl rfl rfl (by rfl) (by kernel_rfl) ⟨_, hs, by first | (simp; done) | exact fun e he => List.mem_append_right _ he⟩ (by first | exact Z.Yd.load rfl Try.isAgg25 (fun _ => Z.cellB (by first | ((repeat (first | exact List.mem_cons_self | refine List.mem_cons_of_mem _ ?_ | refine List.mem_append_right _ ?_)); done) | fail) rfl) | exact Z.Yd.load rfl Try.isAgg25 (fun _ => Z.cellO (by assumption) (by simp) (by assumption)) | fail "load 2.0") ?_
  refine Z.tn 1 rfl rfl (by kernel_rfl) rfl trivial ?_
  refine Z.ZO.quiet rfl (by rfl) (Z.keepS hs) (by first | exact Z.Yd.load rfl Try.isAgg25 (fun _ => Z.cellB (by first | ((repeat (first | exact List.mem_cons_self | refine List.mem_cons_of_mem _ ?_ | refine List.mem_append_right _ ?_)); done) | fail) rfl) | exact Z.Yd.load rfl Try.isAgg25 (fun _ => Z.cellO (by assumption) (by simp) (by assumption)) | fail "load 2.1") ?_
  refine Z.tk (Dn := fun j => j != 5) (i := 1) (fun _ => ⟨_, hs, by first | (simp; done) | exact fun e he => List.mem_append_right _ he⟩) ?_
  refine Z.tn 2 rfl rfl (by kernel_rfl) rfl trivial ?_
  refine Z.ZO.quiet rfl (by rfl) (Z.keepS hs) (Z.Yd.nilc rfl rfl) ?_
  refine Z.tk (Dn := fun j => j != 5) (i := 2) (fun _ => ⟨_, hs, by first | (simp; done) | exact fun e he => List.mem_append_right _ he⟩) ?_
  refine Z.tn 3 rfl rfl (by kernel_rfl) rfl trivial ?_
  refine Z.ZO.quiet rfl (by rfl) (Z.keepS hs) (Z.Yd.fieldA (m := 6) rfl (by kernel_rfl)) ?_
  refine Z.tk (Dn := fun j => j != 5) (i := 3) (fun _ => ⟨_, hs, by first | (simp; done) | exact fun e he => List.mem_append_right _ he⟩) ?_
  refine Z.t 4 rfl rfl rfl (by rfl) (by kernel_rfl) ⟨_, hs, by first | (simp; done) | exact fun e he => List.mem_append_right _ he⟩ (by first | exact Z.Yd.load rfl Try.isAgg3 (fun _ => Z.cellB (by first | ((repeat (first | exact List.mem_cons_self | refine List.mem_cons_of_mem _ ?_ | refine List.mem_append_right _ ?_)); done) | fail) rfl) | exact Z.Yd.load rfl Try.isAgg3 (fun _ => Z.cellO (by assumption) (by simp) (by assumption)) | fail "load 2.4") ?_
  refine Z.tn 5 rfl rfl (by kernel_rfl) rfl trivial ?_
  refine Z.ZO.call rfl rfl (by rfl) rfl rfl Try.call31 rfl (ac_enter g T { m with att := 0, bnd := 0 } 1 m.now _ (hs.lend (L1 := [_]))) ?_
  rintro v2_5 w2_5 ⟨rfl, hz⟩
  replace hs := hs.regain (L1 := [_]) hz
  refine Z.tk (Dn := fun j => j != 5) (i := 5) (fun h => absurd h (by decide)) ?_
  refine Z.td (by rfl) (by kernel_rfl) ?_
  refine Z.only [] rfl ?_
  refine Z.nthen ?_
  refine Z.seq ?_
  refine Z.region ?_
  refine Z.lb 2 rfl ?_
  refine Z.lnil ?_
  refine Z.only [1, 2] rfl ?_
  refine Z.nthen ?_
  refine Z.ret ?_
  -- ret#0
  refine Z.out2 (by exact ⟨rfl, rfl, trivial⟩) ?_
  exact ⟨_, rfl, rfl, hs⟩
theorem ac_start (g T : Nat) (m : AcV) (t : Int) (w : World) (hs : SX.St w (SX.idsOf [SX.Ent.blk g T m.cells.toArray]) w [SX.Ent.blk g T m.cells.toArray]) (hm : m.ok) :
    Calls Try.prog 11 #[.pointer (some ⟨g, 0, none⟩), .int .i64 t] w (SX.Ret fun v w' => v = .int .i64 (startV m t).2 ∧ SX.St w (SX.idsOf [SX.Ent.blk g T m.cells.toArray]) w' [SX.Ent.blk g T (startV m t).1.cells.toArray]) := by
  generalize hM : SX.idsOf [SX.Ent.blk g T m.cells.toArray] = M at *
  obtain ⟨X, hX⟩ : ∃ X : Value × Int × AcV, X = if true = true ∧ okT t then (if (0 : Int) = 0 then (if (tickV m t).st ∈ [0, 4, 5] then (.bool true, 0, { tickV m t with st := 1, due := (tickV m t).now, att := 0, bnd := 0 }) else (.bool false, 8, tickV m t)) else (.bool false, 0, m)) else (.bool false, 2, m) := ⟨_, rfl⟩
  have hE : X.2.1 = (startV m t).2 ∧ X.2.2 = (startV m t).1 := by
    rw [hX]
    unfold startV
    by_cases h1 : okT t
    · by_cases h2 : (tickV m t).st = 0 ∨ (tickV m t).st = 4 ∨ (tickV m t).st = 5
      · simp [h1, h2]
      · simp [h1, h2]
    · simp [h1]
  refine Z.enter Try.func11 rfl Try.ntmps11 rfl rfl ?_
  refine Z.seq ?_
  refine Z.region ?_
  refine Z.le rfl trivial ?_
  refine Z.ZO.box rfl rfl (by rfl) rfl rfl hs ?_
  clear hs; intro g2 w2 hs
  refine Z.lb 1 rfl ?_
  refine Z.lnil ?_
  refine Z.only [1, 2] rfl ?_
  refine Z.nthen ?_
  refine Z.seq ?_
  refine Z.region ?_
  refine Z.l rfl rfl (by rfl) (Z.keepS hs) (by first | exact Z.Yd.load rfl Try.isAgg25 (fun _ => Z.cellB (by first | ((repeat (first | exact List.mem_cons_self | refine List.mem_cons_of_mem _ ?_ | refine List.mem_append_right _ ?_)); done) | fail) rfl) | exact Z.Yd.load rfl Try.isAgg25 (fun _ => Z.cellO (by assumption) (by simp) (by assumption)) | fail "load 1.0") ?_
  refine Z.lb 2 rfl ?_
  refine Z.le rfl trivial ?_
  refine Z.ZO.litL (T' := 44) [(0, 1), (1, 1), (2, 1)] [.int .i64 0, .int .i64 0, .int .i64 0] rfl rfl (by rfl) rfl rfl (by intro W; kernel_rfl) hs ?_
  clear hs; intro g11 w11 hs
  replace hs : SX.St w M _ ([SX.Ent.blk g T m.cells.toArray, SX.Ent.blk g2 _ _] ++ [_]) := hs.sel [2, 1, 0] (by decide)
  refine Z.le rfl trivial ?_
  refine Z.ZO.call rfl rfl (by rfl) rfl rfl Try.call29 rfl (ac_timedB g T [SX.Ent.blk g2 _ _] m t true 0 30 _ _ _ _ [0, 4, 5] _ hs.lend hm (by have h0 := Z.blk_lentj hs (j := 0) rfl; exact h0) rfl (by decide) Try.call30 _ _ _ (fun _ _ _ _ W hW ↦ ac_start1 g T g2 _ (tickV m t) W hW.all) X.1 X.2.1 X.2.2 hX) ?_
  rintro v1_4 w1_4 ⟨rfl, hz⟩
  replace hs := hs.regain hz
  rw [hE.2] at hs
  rw [hE.1]
  refine Z.lb 5 rfl ?_
  refine Z.lnil ?_
  refine Z.only [6] rfl ?_
  refine Z.nthen ?_
  refine Z.seq ?_
  refine Z.region ?_
  refine Z.lb 2 rfl ?_
  refine Z.lnil ?_
  refine Z.only [4] rfl ?_
  refine Z.nthen ?_
  refine Z.ret ?_
  -- ret#0
  refine Z.out1 (by exact ⟨rfl, trivial⟩) ?_
  exact ⟨_, rfl, rfl, hs.sel [0] (by decide)⟩
theorem ac_tick1 (w : World) : Calls Try.prog 48 #[] w (SX.Ret fun v w' => v = .tuple #[.bool true, .int .i64 0] ∧ SX.St w [] w' []) := by
  have hs := SX.St.start w
  refine Z.enter Try.func48 rfl Try.ntmps48 rfl rfl ?_
  refine Z.seq ?_
  refine Z.region ?_
  refine Z.lb 2 rfl ?_
  refine Z.lnil ?_
  refine Z.only [] rfl ?_
  refine Z.nthen ?_
  refine Z.seq ?_
  refine Z.region ?_
  refine Z.lb 2 rfl ?_
  refine Z.lnil ?_
  refine Z.only [0, 1] rfl ?_
  refine Z.nthen ?_
  refine Z.ret ?_
  -- ret#0
  refine Z.out2 (by exact ⟨rfl, rfl, trivial⟩) ?_
  first | exact ⟨_, rfl, rfl, hs⟩ | exact ⟨_, rfl, rfl, hs.sub (List.nil_sublist _)⟩
theorem ac_tick (g T : Nat) (m : AcV) (t : Int) (w : World) (hs : SX.St w (SX.idsOf [SX.Ent.blk g T m.cells.toArray]) w [SX.Ent.blk g T m.cells.toArray]) (hm : m.ok) :
    Calls Try.prog 24 #[.pointer (some ⟨g, 0, none⟩), .int .i64 t] w (SX.Ret fun v w' => v = .int .i64 (if okT t then 0 else 2) ∧ SX.St w (SX.idsOf [SX.Ent.blk g T m.cells.toArray]) w' [SX.Ent.blk g T (if okT t then tickV m t else m).cells.toArray]) := by
  generalize hM : SX.idsOf [SX.Ent.blk g T m.cells.toArray] = M at *
  obtain ⟨X, hX⟩ : ∃ X : Value × Int × AcV, X = if true = true ∧ okT t then (if (0 : Int) = 0 then (if (tickV m t).st ∈ [0, 1, 2, 3, 4, 5] then (.bool true, 0, tickV m t) else (.bool false, 8, tickV m t)) else (.bool false, 0, m)) else (.bool false, 2, m) := ⟨_, rfl⟩
  have hE : X.2.1 = (if okT t then 0 else 2) ∧ X.2.2 = (if okT t then tickV m t else m) := by
    rw [hX]
    by_cases h1 : okT t
    · have h2 : (tickV m t).st ∈ ([0, 1, 2, 3, 4, 5] : List Int) := by
        have := (hm.tick h1).st
        simp
        omega
      rw [if_pos ⟨rfl, h1⟩, if_pos rfl, if_pos h2, if_pos h1, if_pos h1]
      exact ⟨rfl, rfl⟩
    · rw [if_neg (fun h => h1 h.2), if_neg h1, if_neg h1]
      exact ⟨rfl, rfl⟩
  refine Z.enter Try.func24 rfl Try.ntmps24 rfl rfl ?_
  refine Z.seq ?_
  refine Z.region ?_
  refine Z.lb 1 rfl ?_
  refine Z.lnil ?_
  refine Z.only [0, 1] rfl ?_
  refine Z.nthen ?_
  refine Z.seq ?_
  refine Z.region ?_
  refine Z.lb 2 rfl ?_
  refine Z.le rfl trivial ?_
  refine Z.ZO.litL (T' := 44) [(0, 1), (1, 1), (2, 1), (3, 1), (4, 1), (5, 1)] [.int .i64 0, .int .i64 0, .int .i64 0, .int .i64 0, .int .i64 0, .int .i64 0] rfl rfl (by rfl) rfl rfl (by intro W; kernel_rfl) hs ?_
  clear hs; intro g10 w10 hs
  replace hs : SX.St w M _ ([SX.Ent.blk g T m.cells.toArray] ++ [_]) := hs.sel [1, 0] (by decide)
  refine Z.le rfl trivial ?_
  refine Z.ZO.call rfl rfl (by rfl) rfl rfl Try.call29 rfl (ac_timedB g T [] m t true 0 48 _ _ _ _ [0, 1, 2, 3, 4, 5] _ hs.lend hm (by have h0 := Z.blk_lentj hs (j := 0) rfl; exact h0) rfl (by decide) Try.call48 _ _ _ (fun _ _ _ _ W hW ↦ (ac_tick1 W).mono (by rintro e W' ⟨v, rfl, rfl, hy⟩; exact ⟨_, rfl, rfl, by have h1 := hW.all.call hy; exact h1⟩)) X.1 X.2.1 X.2.2 hX) ?_
  rintro v1_3 w1_3 ⟨rfl, hz⟩
  replace hs := hs.regain hz
  rw [hE.2] at hs
  rw [hE.1]
  refine Z.lb 5 rfl ?_
  refine Z.lnil ?_
  refine Z.only [6] rfl ?_
  refine Z.nthen ?_
  refine Z.seq ?_
  refine Z.region ?_
  refine Z.lb 2 rfl ?_
  refine Z.lnil ?_
  refine Z.only [4] rfl ?_
  refine Z.nthen ?_
  refine Z.ret ?_
  -- ret#0
  refine Z.out1 (by exact ⟨rfl, trivial⟩) ?_
  exact ⟨_, rfl, rfl, hs.sel [0] (by decide)⟩
def sendS (m : AcV) (d : Int) : Int × Int × AcV := if m.now < m.due then (0, 10, m) else (d % 64, 0, { m with pre := d % 64, frm := m.now + 3, att := m.att + 1, st := 2, due := m.now + 3 + m.win })
theorem ac_send1 (g T g2 T2 g3 T3 : Nat) (m : AcV) (d : Int) (w : World) (hs : SX.St w (SX.idsOf [SX.Ent.blk g T m.cells.toArray, SX.Ent.blk g2 T2 #[.pointer (some ⟨g, 0, none⟩)], SX.Ent.blk g3 T3 #[.int .i64 d]]) w [SX.Ent.blk g T m.cells.toArray, SX.Ent.blk g2 T2 #[.pointer (some ⟨g, 0, none⟩)], SX.Ent.blk g3 T3 #[.int .i64 d]]) (hm : m.ok) (hd : 0 ≤ d) :
    Calls Try.prog 33 #[.pointer (some ⟨g2, 0, none⟩), .pointer (some ⟨g3, 0, none⟩)] w (SX.Ret fun v w' => v = .tuple #[.int .i64 (sendS m d).1, .int .i64 (sendS m d).2.1] ∧ SX.St w (SX.idsOf [SX.Ent.blk g T m.cells.toArray, SX.Ent.blk g2 T2 #[.pointer (some ⟨g, 0, none⟩)], SX.Ent.blk g3 T3 #[.int .i64 d]]) w' [SX.Ent.blk g T (sendS m d).2.2.cells.toArray, SX.Ent.blk g2 T2 #[.pointer (some ⟨g, 0, none⟩)], SX.Ent.blk g3 T3 #[.int .i64 d]]) := by
  generalize hM : SX.idsOf [SX.Ent.blk g T m.cells.toArray, SX.Ent.blk g2 T2 #[.pointer (some ⟨g, 0, none⟩)], SX.Ent.blk g3 T3 #[.int .i64 d]] = M at *
  obtain ⟨h1, h2, h3, h4, h5, h6, h7, h8, h9, h10⟩ := hm
  have h11 := h1.2.2.1
  have h12 := h1.2.2.2.2
  replace hs : SX.St w M w [SX.Ent.blk g T #[.int .u64 (m).id, .int .i64 (m).rnt, .int .i64 (m).win, .int .i64 (m).con, .int .i64 (m).max, .int .i64 (m).st, .int .i64 (m).now, .int .i64 (m).due, .int .i64 (m).frm, .int .i64 (m).pre, .int .i64 (m).att, .int .i64 (m).bnd, .int .i64 (m).rn], SX.Ent.blk g2 T2 #[.pointer (some ⟨g, 0, none⟩)], SX.Ent.blk g3 T3 #[.int .i64 d]] := hs
  refine Z.enter Try.func33 rfl Try.ntmps33 rfl rfl ?_
  refine Z.seq ?_
  refine Z.region ?_
  refine Z.lb 2 rfl ?_
  refine Z.lnil ?_
  refine Z.only [0, 1] rfl ?_
  refine Z.nthen ?_
  refine Z.seq ?_
  refine Z.seq ?_
  refine Z.drawK (fun _ => true) mixed hs ?_
  clear hs; intro wd1 hs
  refine Z.t 0 rfl rfl rfl (by rfl) (by kernel_rfl) ⟨_, hs, by first | (simp; done) | exact fun e he => List.mem_append_right _ he⟩ (by first | exact Z.Yd.load rfl Try.isAgg25 (fun _ => Z.cellB (by first | ((repeat (first | exact List.mem_cons_self | refine List.mem_cons_of_mem _ ?_ | refine List.mem_append_right _ ?_)); done) | fail) rfl) | exact Z.Yd.load rfl Try.isAgg25 (fun _ => Z.cellO (by assumption) (by simp) (by assumption)) | fail "load 1.0") ?_
  refine Z.t 1 rfl rfl rfl (by rfl) (by kernel_rfl) ⟨_, hs, by first | (simp; done) | exact fun e he => List.mem_append_right _ he⟩ (Z.Yd.nilc rfl rfl) ?_
  refine Z.t 2 rfl rfl rfl (by rfl) (by kernel_rfl) ⟨_, hs, by first | (simp; done) | exact fun e he => List.mem_append_right _ he⟩ (Z.Yd.fieldA (m := 6) rfl (by kernel_rfl)) ?_
  refine Z.t 3 rfl rfl rfl (by rfl) (by kernel_rfl) ⟨_, hs, by first | (simp; done) | exact fun e he => List.mem_append_right _ he⟩ (by first | exact Z.Yd.load rfl Try.isAgg3 (fun _ => Z.cellB (by first | ((repeat (first | exact List.mem_cons_self | refine List.mem_cons_of_mem _ ?_ | refine List.mem_append_right _ ?_)); done) | fail) rfl) | exact Z.Yd.load rfl Try.isAgg3 (fun _ => Z.cellO (by assumption) (by simp) (by assumption)) | fail "load 1.3") ?_
  refine Z.t 4 rfl rfl rfl (by rfl) (by kernel_rfl) ⟨_, hs, by first | (simp; done) | exact fun e he => List.mem_append_right _ he⟩ (by first | exact Z.Yd.load rfl Try.isAgg25 (fun _ => Z.cellB (by first | ((repeat (first | exact List.mem_cons_self | refine List.mem_cons_of_mem _ ?_ | refine List.mem_append_right _ ?_)); done) | fail) rfl) | exact Z.Yd.load rfl Try.isAgg25 (fun _ => Z.cellO (by assumption) (by simp) (by assumption)) | fail "load 1.4") ?_
  refine Z.t 5 rfl rfl rfl (by rfl) (by kernel_rfl) ⟨_, hs, by first | (simp; done) | exact fun e he => List.mem_append_right _ he⟩ (Z.Yd.nilc rfl rfl) ?_
  refine Z.t 6 rfl rfl rfl (by rfl) (by kernel_rfl) ⟨_, hs, by first | (simp; done) | exact fun e he => List.mem_append_right _ he⟩ (Z.Yd.fieldA (m := 7) rfl (by kernel_rfl)) ?_
  refine Z.t 7 rfl rfl rfl (by rfl) (by kernel_rfl) ⟨_, hs, by first | (simp; done) | exact fun e he => List.mem_append_right _ he⟩ (by first | exact Z.Yd.load rfl Try.isAgg3 (fun _ => Z.cellB (by first | ((repeat (first | exact List.mem_cons_self | refine List.mem_cons_of_mem _ ?_ | refine List.mem_append_right _ ?_)); done) | fail) rfl) | exact Z.Yd.load rfl Try.isAgg3 (fun _ => Z.cellO (by assumption) (by simp) (by assumption)) | fail "load 1.7") ?_
  refine Z.tb [8] (by kernel_rfl) rfl ⟨_, hs, by first | (simp; done) | exact fun e he => List.mem_append_right _ he⟩ rfl ?_
  refine Z.td (by rfl) (by kernel_rfl) ?_
  refine Z.only [0, 1, 12] rfl ?_
  refine Z.nthen ?_
  refine Z.cond rfl (fun hc1 => ?_) (fun hc1 => ?_)
  · first
      | (exfalso; simp at hc1 <;> omega)
      | (
        (try simp at hc1)
        have e : sendS m d = (0, 10, m) := if_pos (by omega)
        rw [e]
        refine Z.seq ?_
        refine Z.region ?_
        refine Z.lb 2 rfl ?_
        refine Z.lnil ?_
        refine Z.only [2, 3] rfl ?_
        refine Z.nthen ?_
        refine Z.ret ?_
        repeat (first | refine Z.rthen ?_ | refine Z.rblock ?_ | refine Z.rscope ?_)
        -- ret#0
        refine Z.out2 (by exact ⟨rfl, rfl, trivial⟩) ?_
        exact ⟨_, rfl, rfl, hs⟩
        )
  · first
      | (exfalso; simp at hc1 <;> omega)
      | (
        (try simp at hc1)
        have e : sendS m d = (d % 64, 0, { m with pre := d % 64, frm := m.now + 3, att := m.att + 1, st := 2, due := m.now + 3 + m.win }) := if_neg (by omega)
        rw [e]
        refine Z.skip ?_
        refine Z.nthen ?_
        refine Z.seq ?_
        refine Z.drawS (fun W => ∃ x y : Value, SX.Keep w M [SX.Ent.blk g T #[.int .u64 m.id, .int .i64 m.rnt, .int .i64 m.win, .int .i64 m.con, .int .i64 m.max, .int .i64 m.st, .int .i64 m.now, .int .i64 m.due, x, y, .int .i64 m.att, .int .i64 m.bnd, .int .i64 m.rn], SX.Ent.blk g2 T2 #[.pointer (some ⟨g, 0, none⟩)], SX.Ent.blk g3 T3 #[.int .i64 d]] W) (fun j => j != 14) mixed hs ?_
        clear hs; intro wd3 hs
        refine Z.t 0 rfl rfl rfl (by rfl) (by kernel_rfl) ⟨_, _, _, hs, by first | exact fun e he => he | (simp; done)⟩ (by exact Z.Yd.load rfl Try.isAgg25 (fun _ W hS => by obtain ⟨x, y, hK⟩ := hS; exact Z.cellB (by first | ((repeat (first | exact List.mem_cons_self | refine List.mem_cons_of_mem _ ?_ | refine List.mem_append_right _ ?_)); done) | fail) rfl W hK)) ?_
        refine Z.t 1 rfl rfl rfl (by rfl) (by kernel_rfl) ⟨_, _, _, hs, by first | exact fun e he => he | (simp; done)⟩ (by exact Z.Yd.load rfl Try.isAgg25 (fun _ W hS => by obtain ⟨x, y, hK⟩ := hS; exact Z.cellB (by first | ((repeat (first | exact List.mem_cons_self | refine List.mem_cons_of_mem _ ?_ | refine List.mem_append_right _ ?_)); done) | fail) rfl W hK)) ?_
        refine Z.t 2 rfl rfl rfl (by rfl) (by kernel_rfl) ⟨_, _, _, hs, by first | exact fun e he => he | (simp; done)⟩ (by exact Z.Yd.load rfl Try.isAgg3 (fun _ W hS => by obtain ⟨x, y, hK⟩ := hS; exact Z.cellB (by first | ((repeat (first | exact List.mem_cons_self | refine List.mem_cons_of_mem _ ?_ | refine List.mem_append_right _ ?_)); done) | fail) rfl W hK)) ?_
        refine Z.t 3 rfl rfl rfl (by rfl) (by kernel_rfl) ⟨_, _, _, hs, by first | exact fun e he => he | (simp; done)⟩ (Z.Yd.rem rfl rfl (by intro hG; first | decide | omega) (by intro hG; first | exact Z.tmodn (by omega) | exact rfl)) ?_
        refine Z.t 4 rfl rfl rfl (by rfl) (by kernel_rfl) ⟨_, _, _, hs, by first | exact fun e he => he | (simp; done)⟩ (by exact Z.Yd.load rfl Try.isAgg25 (fun _ W hS => by obtain ⟨x, y, hK⟩ := hS; exact Z.cellB (by first | ((repeat (first | exact List.mem_cons_self | refine List.mem_cons_of_mem _ ?_ | refine List.mem_append_right _ ?_)); done) | fail) rfl W hK)) ?_
        refine Z.t 5 rfl rfl rfl (by rfl) (by kernel_rfl) ⟨_, _, _, hs, by first | exact fun e he => he | (simp; done)⟩ (Z.Yd.nilc rfl rfl) ?_
        refine Z.t 6 rfl rfl rfl (by rfl) (by kernel_rfl) ⟨_, _, _, hs, by first | exact fun e he => he | (simp; done)⟩ (Z.Yd.fieldA (m := 6) rfl (by kernel_rfl)) ?_
        refine Z.t 7 rfl rfl rfl (by rfl) (by kernel_rfl) ⟨_, _, _, hs, by first | exact fun e he => he | (simp; done)⟩ (by exact Z.Yd.load rfl Try.isAgg3 (fun _ W hS => by obtain ⟨x, y, hK⟩ := hS; exact Z.cellB (by first | ((repeat (first | exact List.mem_cons_self | refine List.mem_cons_of_mem _ ?_ | refine List.mem_append_right _ ?_)); done) | fail) rfl W hK)) ?_
        refine Z.t 8 rfl rfl rfl (by rfl) (by kernel_rfl) ⟨_, _, _, hs, by first | exact fun e he => he | (simp; done)⟩ (Z.Yd.add rfl rfl (fun hG => Z.wi64 (by first | omega | (have hG' := Z.gh rfl hG; simp at hG'; omega)))) ?_
        refine Z.t 9 rfl rfl rfl (by rfl) (by kernel_rfl) ⟨_, _, _, hs, by first | exact fun e he => he | (simp; done)⟩ (Z.Yd.nilc rfl rfl) ?_
        refine Z.t 10 rfl rfl rfl (by rfl) (by kernel_rfl) ⟨_, _, _, hs, by first | exact fun e he => he | (simp; done)⟩ (Z.Yd.fieldA (m := 9) rfl (by kernel_rfl)) ?_
        refine Z.tn 11 rfl rfl (by kernel_rfl) rfl trivial ?_
        first | refine Z.ZO.store rfl rfl hs Try.sizeOf3 rfl rfl rfl (by first | exact SX.at0 | exact SX.at1 | exact SX.at2 | exact SX.at3 | exact SX.at4 | exact SX.at5 | exact Z.at6 | exact Z.at7 | exact Z.at8 | exact Z.at9 | exact Z.at10 | exact Z.at11 | exact Z.at12) (by first | (simp; done) | (simp; omega)) ?_ | refine Z.ZO.storeR rfl rfl hs Try.sizeOf3 rfl rfl rfl (by first | exact SX.at0 | exact SX.at1 | exact SX.at2 | exact SX.at3 | exact SX.at4 | exact SX.at5 | exact Z.at6 | exact Z.at7 | exact Z.at8 | exact Z.at9 | exact Z.at10 | exact Z.at11 | exact Z.at12) (by first | omega | (simp [ints_length]; done) | (simp [ints_length]; omega)) ?_
        clear hs; intro ws hs
        simp only [Nat.zero_add, Nat.add_zero, Nat.reduceAdd, Int.reduceToNat, Nat.reduceMul, List.set_cons_zero, List.set_cons_succ, List.setIfInBounds_toArray] at hs
        refine Z.tk (Dn := fun j => j != 14) (i := 11) (fun _ => ⟨_, _, _, hs, by first | exact fun e he => he | (simp; done)⟩) ?_
        refine Z.tn 12 rfl rfl (by kernel_rfl) rfl trivial ?_
        refine Z.ZO.quiet rfl (by rfl) (Z.keepS hs) (Z.Yd.nilc rfl rfl) ?_
        refine Z.tk (Dn := fun j => j != 14) (i := 12) (fun _ => ⟨_, _, _, hs, by first | exact fun e he => he | (simp; done)⟩) ?_
        refine Z.t 13 rfl rfl rfl (by rfl) (by kernel_rfl) ⟨_, _, _, hs, by first | exact fun e he => he | (simp; done)⟩ (Z.Yd.fieldA (m := 8) rfl (by kernel_rfl)) ?_
        refine Z.tn 14 rfl rfl (by kernel_rfl) rfl trivial ?_
        first | refine Z.ZO.store rfl rfl hs Try.sizeOf3 rfl rfl rfl (by first | exact SX.at0 | exact SX.at1 | exact SX.at2 | exact SX.at3 | exact SX.at4 | exact SX.at5 | exact Z.at6 | exact Z.at7 | exact Z.at8 | exact Z.at9 | exact Z.at10 | exact Z.at11 | exact Z.at12) (by first | (simp; done) | (simp; omega)) ?_ | refine Z.ZO.storeR rfl rfl hs Try.sizeOf3 rfl rfl rfl (by first | exact SX.at0 | exact SX.at1 | exact SX.at2 | exact SX.at3 | exact SX.at4 | exact SX.at5 | exact Z.at6 | exact Z.at7 | exact Z.at8 | exact Z.at9 | exact Z.at10 | exact Z.at11 | exact Z.at12) (by first | omega | (simp [ints_length]; done) | (simp [ints_length]; omega)) ?_
        clear hs; intro ws hs
        simp only [Nat.zero_add, Nat.add_zero, Nat.reduceAdd, Int.reduceToNat, Nat.reduceMul, List.set_cons_zero, List.set_cons_succ, List.setIfInBounds_toArray] at hs
        refine Z.tk (Dn := fun j => j != 14) (i := 14) (fun h => absurd h (by decide)) ?_
        refine Z.td (by rfl) (by kernel_rfl) ?_
        refine Z.only [0] rfl ?_
        refine Z.nthen ?_
        refine Z.seq ?_
        refine Z.region ?_
        refine Z.l rfl rfl (by rfl) (Z.keepS hs) (by first | exact Z.Yd.load rfl Try.isAgg25 (fun _ => Z.cellB (by first | ((repeat (first | exact List.mem_cons_self | refine List.mem_cons_of_mem _ ?_ | refine List.mem_append_right _ ?_)); done) | fail) rfl) | exact Z.Yd.load rfl Try.isAgg25 (fun _ => Z.cellO (by assumption) (by simp) (by assumption)) | fail "load 4.0") ?_
        refine Z.l rfl rfl (by rfl) (Z.keepS hs) (Z.Yd.nilc rfl rfl) ?_
        refine Z.l rfl rfl (by rfl) (Z.keepS hs) (Z.Yd.fieldA (m := 10) rfl (by kernel_rfl)) ?_
        refine Z.l rfl rfl (by rfl) (Z.keepS hs) (by first | exact Z.Yd.load rfl Try.isAgg3 (fun _ => Z.cellB (by first | ((repeat (first | exact List.mem_cons_self | refine List.mem_cons_of_mem _ ?_ | refine List.mem_append_right _ ?_)); done) | fail) rfl) | exact Z.Yd.load rfl Try.isAgg3 (fun _ => Z.cellO (by assumption) (by simp) (by assumption)) | fail "load 4.3") ?_
        refine Z.l rfl rfl (by rfl) (Z.keepS hs) (Z.Yd.add rfl rfl (fun hG => Z.wi64 (by first | omega | (have hG' := Z.gh rfl hG; simp at hG'; omega)))) ?_
        refine Z.l rfl rfl (by rfl) (Z.keepS hs) (Z.Yd.nilc rfl rfl) ?_
        refine Z.l rfl rfl (by rfl) (Z.keepS hs) (Z.Yd.fieldA (m := 10) rfl (by kernel_rfl)) ?_
        refine Z.le rfl trivial ?_
        first | refine Z.ZO.store rfl rfl hs Try.sizeOf3 rfl rfl rfl (by first | exact SX.at0 | exact SX.at1 | exact SX.at2 | exact SX.at3 | exact SX.at4 | exact SX.at5 | exact Z.at6 | exact Z.at7 | exact Z.at8 | exact Z.at9 | exact Z.at10 | exact Z.at11 | exact Z.at12) (by first | (simp; done) | (simp; omega)) ?_ | refine Z.ZO.storeR rfl rfl hs Try.sizeOf3 rfl rfl rfl (by first | exact SX.at0 | exact SX.at1 | exact SX.at2 | exact SX.at3 | exact SX.at4 | exact SX.at5 | exact Z.at6 | exact Z.at7 | exact Z.at8 | exact Z.at9 | exact Z.at10 | exact Z.at11 | exact Z.at12) (by first | omega | (simp [ints_length]; done) | (simp [ints_length]; omega)) ?_
        clear hs; intro ws hs
        simp only [Nat.zero_add, Nat.add_zero, Nat.reduceAdd, Int.reduceToNat, Nat.reduceMul, List.set_cons_zero, List.set_cons_succ, List.setIfInBounds_toArray] at hs
        refine Z.lnil ?_
        refine Z.only [0] rfl ?_
        refine Z.nthen ?_
        refine Z.seq ?_
        refine Z.drawK (fun j => j != 11) mixed hs ?_
        clear hs; intro wd5 hs
        refine Z.t 0 rfl rfl rfl (by rfl) (by kernel_rfl) ⟨_, hs, by first | (simp; done) | exact fun e he => List.mem_append_right _ he⟩ (by first | exact Z.Yd.load rfl Try.isAgg25 (fun _ => Z.cellB (by first | ((repeat (first | exact List.mem_cons_self | refine List.mem_cons_of_mem _ ?_ | refine List.mem_append_right _ ?_)); done) | fail) rfl) | exact Z.Yd.load rfl Try.isAgg25 (fun _ => Z.cellO (by assumption) (by simp) (by assumption)) | fail "load 5.0") ?_
        refine Z.tX 1 [1, 2, 3, 4, 10, 11] rfl rfl rfl (by rfl) (by kernel_rfl) ⟨_, hs, by first | (simp; done) | exact fun e he => List.mem_append_right _ he⟩ (by first | exact Z.Yd.load rfl Try.isAgg25 (fun _ => Z.cellB (by first | ((repeat (first | exact List.mem_cons_self | refine List.mem_cons_of_mem _ ?_ | refine List.mem_append_right _ ?_)); done) | fail) rfl) | exact Z.Yd.load rfl Try.isAgg25 (fun _ => Z.cellO (by assumption) (by simp) (by assumption)) | fail "load 5.1") ?_
        refine Z.tX 2 [2, 3, 4, 10, 11] rfl rfl rfl (by rfl) (by kernel_rfl) ⟨_, hs, by first | (simp; done) | exact fun e he => List.mem_append_right _ he⟩ (Z.Yd.nilc rfl rfl) ?_
        refine Z.tX 3 [3, 4, 10, 11] rfl rfl rfl (by rfl) (by kernel_rfl) ⟨_, hs, by first | (simp; done) | exact fun e he => List.mem_append_right _ he⟩ (Z.Yd.fieldA (m := 8) rfl (by kernel_rfl)) ?_
        refine Z.tX 4 [4, 10, 11] rfl rfl rfl (by rfl) (by kernel_rfl) ⟨_, hs, by first | (simp; done) | exact fun e he => List.mem_append_right _ he⟩ (by first | exact Z.Yd.load rfl Try.isAgg3 (fun _ => Z.cellB (by first | ((repeat (first | exact List.mem_cons_self | refine List.mem_cons_of_mem _ ?_ | refine List.mem_append_right _ ?_)); done) | fail) rfl) | exact Z.Yd.load rfl Try.isAgg3 (fun _ => Z.cellO (by assumption) (by simp) (by assumption)) | fail "load 5.4") ?_
        refine Z.tn 5 rfl rfl (by kernel_rfl) rfl trivial ?_
        refine Z.ZO.quiet rfl (by rfl) (Z.keepS hs) (by first | exact Z.Yd.load rfl Try.isAgg25 (fun _ => Z.cellB (by first | ((repeat (first | exact List.mem_cons_self | refine List.mem_cons_of_mem _ ?_ | refine List.mem_append_right _ ?_)); done) | fail) rfl) | exact Z.Yd.load rfl Try.isAgg25 (fun _ => Z.cellO (by assumption) (by simp) (by assumption)) | fail "load 5.5") ?_
        refine Z.tk (Dn := fun j => j != 11) (i := 5) (fun _ => ⟨_, hs, by first | (simp; done) | exact fun e he => List.mem_append_right _ he⟩) ?_
        refine Z.tn 6 rfl rfl (by kernel_rfl) rfl trivial ?_
        refine Z.ZO.quiet rfl (by rfl) (Z.keepS hs) (Z.Yd.nilc rfl rfl) ?_
        refine Z.tk (Dn := fun j => j != 11) (i := 6) (fun _ => ⟨_, hs, by first | (simp; done) | exact fun e he => List.mem_append_right _ he⟩) ?_
        refine Z.tn 7 rfl rfl (by kernel_rfl) rfl trivial ?_
        refine Z.ZO.quiet rfl (by rfl) (Z.keepS hs) (Z.Yd.fieldA (m := 0) rfl (by kernel_rfl)) ?_
        refine Z.tk (Dn := fun j => j != 11) (i := 7) (fun _ => ⟨_, hs, by first | (simp; done) | exact fun e he => List.mem_append_right _ he⟩) ?_
        refine Z.tn 8 rfl rfl (by kernel_rfl) rfl trivial ?_
        refine Z.ZO.quiet rfl (by rfl) (Z.keepS hs) (Z.Yd.fieldA (m := 2) rfl (by kernel_rfl)) ?_
        refine Z.tk (Dn := fun j => j != 11) (i := 8) (fun _ => ⟨_, hs, by first | (simp; done) | exact fun e he => List.mem_append_right _ he⟩) ?_
        refine Z.tn 9 rfl rfl (by kernel_rfl) rfl trivial ?_
        refine Z.ZO.quiet rfl (by rfl) (Z.keepS hs) (by first | exact Z.Yd.load rfl Try.isAgg3 (fun _ => Z.cellB (by first | ((repeat (first | exact List.mem_cons_self | refine List.mem_cons_of_mem _ ?_ | refine List.mem_append_right _ ?_)); done) | fail) rfl) | exact Z.Yd.load rfl Try.isAgg3 (fun _ => Z.cellO (by assumption) (by simp) (by assumption)) | fail "load 5.9") ?_
        refine Z.tk (Dn := fun j => j != 11) (i := 9) (fun _ => ⟨_, hs, by first | (simp; done) | exact fun e he => List.mem_append_right _ he⟩) ?_
        refine Z.t 10 rfl rfl rfl (by rfl) (by kernel_rfl) ⟨_, hs, by first | (simp; done) | exact fun e he => List.mem_append_right _ he⟩ (Z.Yd.add rfl rfl (fun hG => Z.wi64 (by first | omega | (have hG' := Z.gh rfl hG; simp at hG'; omega)))) ?_
        refine Z.tn 11 rfl rfl (by kernel_rfl) rfl trivial ?_
        refine Z.ZO.call rfl rfl (by rfl) rfl rfl Try.call31 rfl (ac_enter g T { m with pre := d % 64, frm := m.now + 3, att := m.att + 1 } 2 (m.now + 3 + m.win) _ (hs.lend (L1 := [_]))) ?_
        rintro v5_11 w5_11 ⟨rfl, hz⟩
        replace hs := hs.regain (L1 := [_]) hz
        refine Z.tk (Dn := fun j => j != 11) (i := 11) (fun h => absurd h (by decide)) ?_
        refine Z.td (by rfl) (by kernel_rfl) ?_
        refine Z.only [0] rfl ?_
        refine Z.nthen ?_
        refine Z.seq ?_
        refine Z.region ?_
        refine Z.l rfl rfl (by rfl) (Z.keepS hs) (by first | exact Z.Yd.load rfl Try.isAgg25 (fun _ => Z.cellB (by first | ((repeat (first | exact List.mem_cons_self | refine List.mem_cons_of_mem _ ?_ | refine List.mem_append_right _ ?_)); done) | fail) rfl) | exact Z.Yd.load rfl Try.isAgg25 (fun _ => Z.cellO (by assumption) (by simp) (by assumption)) | fail "load 6.0") ?_
        refine Z.l rfl rfl (by rfl) (Z.keepS hs) (Z.Yd.nilc rfl rfl) ?_
        refine Z.l rfl rfl (by rfl) (Z.keepS hs) (Z.Yd.fieldA (m := 9) rfl (by kernel_rfl)) ?_
        refine Z.l rfl rfl (by rfl) (Z.keepS hs) (by first | exact Z.Yd.load rfl Try.isAgg3 (fun _ => Z.cellB (by first | ((repeat (first | exact List.mem_cons_self | refine List.mem_cons_of_mem _ ?_ | refine List.mem_append_right _ ?_)); done) | fail) rfl) | exact Z.Yd.load rfl Try.isAgg3 (fun _ => Z.cellO (by assumption) (by simp) (by assumption)) | fail "load 6.3") ?_
        refine Z.lb 2 rfl ?_
        refine Z.lnil ?_
        refine Z.only [2, 3] rfl ?_
        refine Z.nthen ?_
        refine Z.ret ?_
        -- ret#1
        refine Z.out2 (by exact ⟨rfl, rfl, trivial⟩) ?_
        exact ⟨_, rfl, rfl, hs⟩
        )
theorem ac_send (g T : Nat) (m : AcV) (t d : Int) (w : World) (hs : SX.St w (SX.idsOf [SX.Ent.blk g T m.cells.toArray]) w [SX.Ent.blk g T m.cells.toArray]) (hm : m.ok) :
    Calls Try.prog 12 #[.pointer (some ⟨g, 0, none⟩), .int .i64 t, .int .i64 d] w (SX.Ret fun v w' => v = .tuple #[.int .i64 (sendV m t d).2.1, .int .i64 (sendV m t d).2.2] ∧ SX.St w (SX.idsOf [SX.Ent.blk g T m.cells.toArray]) w' [SX.Ent.blk g T (sendV m t d).1.cells.toArray]) := by
  generalize hM : SX.idsOf [SX.Ent.blk g T m.cells.toArray] = M at *
  obtain ⟨X, hX⟩ : ∃ X : Value × Int × AcV, X = if decide (0 ≤ d) = true ∧ okT t then (if (0 : Int) = 0 then (if (tickV m t).st ∈ [1] then (.int .i64 (sendS (tickV m t) d).1, (sendS (tickV m t) d).2.1, (sendS (tickV m t) d).2.2) else (.int .i64 0, 8, tickV m t)) else (.int .i64 0, 0, m)) else (.int .i64 0, 2, m) := ⟨_, rfl⟩
  have hE : X.1 = .int .i64 (sendV m t d).2.1 ∧ X.2.1 = (sendV m t d).2.2 ∧ X.2.2 = (sendV m t d).1 := by
    rw [hX]
    unfold sendV sendS
    by_cases h1 : okT t <;> by_cases h0 : 0 ≤ d <;> by_cases h2 : (tickV m t).st = 1 <;> by_cases h3 : (tickV m t).now < (tickV m t).due <;> simp [h0, h1, h2, h3]
  refine Z.enter Try.func12 rfl Try.ntmps12 rfl rfl ?_
  refine Z.seq ?_
  refine Z.region ?_
  refine Z.le rfl trivial ?_
  refine Z.ZO.box rfl rfl (by rfl) rfl rfl hs ?_
  clear hs; intro g3 w3 hs
  refine Z.le rfl trivial ?_
  refine Z.ZO.box rfl rfl (by rfl) rfl rfl hs ?_
  clear hs; intro g5 w5 hs
  refine Z.lb 2 rfl ?_
  refine Z.lnil ?_
  refine Z.only [1, 3, 5] rfl ?_
  refine Z.nthen ?_
  refine Z.seq ?_
  refine Z.region ?_
  refine Z.l rfl rfl (by rfl) (Z.keepS hs) (by first | exact Z.Yd.load rfl Try.isAgg25 (fun _ => Z.cellB (by first | ((repeat (first | exact List.mem_cons_self | refine List.mem_cons_of_mem _ ?_ | refine List.mem_append_right _ ?_)); done) | fail) rfl) | exact Z.Yd.load rfl Try.isAgg25 (fun _ => Z.cellO (by assumption) (by simp) (by assumption)) | fail "load 1.0") ?_
  refine Z.lb 1 rfl ?_
  refine Z.l rfl rfl (by rfl) (Z.keepS hs) (by first | exact Z.Yd.load rfl Try.isAgg3 (fun _ => Z.cellB (by first | ((repeat (first | exact List.mem_cons_self | refine List.mem_cons_of_mem _ ?_ | refine List.mem_append_right _ ?_)); done) | fail) rfl) | exact Z.Yd.load rfl Try.isAgg3 (fun _ => Z.cellO (by assumption) (by simp) (by assumption)) | fail "load 1.2") ?_
  refine Z.lb 2 rfl ?_
  refine Z.le rfl trivial ?_
  refine Z.ZO.litL (T' := 44) [(0, 1)] [.int .i64 0] rfl rfl (by rfl) rfl rfl (by intro W; kernel_rfl) hs ?_
  clear hs; intro g13 w13 hs
  replace hs : SX.St w M _ ([SX.Ent.blk g T m.cells.toArray, SX.Ent.blk g3 _ _, SX.Ent.blk g5 _ _] ++ [_]) := hs.sel [3, 2, 1, 0] (by decide)
  refine Z.le rfl trivial ?_
  refine Z.ZO.call rfl rfl (by rfl) rfl rfl Try.call32 rfl (ac_timedI g T [SX.Ent.blk g3 _ _, SX.Ent.blk g5 _ _] m t (decide (0 ≤ d)) 0 33 _ _ _ _ [1] _ hs.lend hm (by have h0 := Z.blk_lentj hs (j := 0) rfl; exact h0) rfl (by decide) Try.call33 _ _ _ (fun hd ht _ _ W hW ↦ ac_send1 g T g3 _ g5 _ (tickV m t) d W hW.all (hm.tick ht) (by simpa using hd)) X.1 X.2.1 X.2.2 hX) ?_
  rintro v1_6 w1_6 ⟨rfl, hz⟩
  replace hs := hs.regain hz
  rw [hE.2.2] at hs
  rw [hE.1, hE.2.1]
  refine Z.lb 4 rfl ?_
  refine Z.lnil ?_
  refine Z.only [6, 7] rfl ?_
  refine Z.nthen ?_
  refine Z.ret ?_
  -- ret#0
  refine Z.out2 (by exact ⟨rfl, rfl, trivial⟩) ?_
  exact ⟨_, rfl, rfl, hs.sel [0] (by decide)⟩
end Go.Proofs.Ytjgfooakcljddaa

/- Random access of a handset: Answer, Message, Resolve. -/
namespace Go.Proofs.Ytjgfooakcljddaa
open Go.RowKit
set_option linter.unusedSimpArgs false
set_option linter.unusedVariables false
--newlaws

def answerS (m : AcV) (p r k : Int) : Bool × Int × AcV := if m.frm ≤ m.now then (if p = m.pre then (if r = 0 then (true, 0, failV { m with bnd := k }) else (true, 0, { m with rn := r, st := 3, due := m.now + m.con })) else (false, 0, m)) else (false, 8, m)
theorem AcV.ok.bound {m : AcV} (h : m.ok) {k : Int} (hk : 0 ≤ k ∧ k ≤ 960) : ({ m with bnd := k } : AcV).ok := by
  obtain ⟨h1, h2, h3, h4, h5, h6, h7, h8, h9, h10⟩ := h
  exact ⟨h1, h2, h3, h4, h5, h6, h7, hk, h9, h10⟩
set_option maxHeartbeats 1000000 in
theorem ac_answer1 (g T g2 T2 g3 T3 : Nat) (m : AcV) (p r k : Int) (w : World) (hs : SX.St w (SX.idsOf [SX.Ent.blk g T m.cells.toArray, SX.Ent.blk g2 T2 #[.pointer (some ⟨g, 0, none⟩)], SX.Ent.blk g3 T3 #[.int .i64 p, .int .i64 r, .int .i64 k]]) w [SX.Ent.blk g T m.cells.toArray, SX.Ent.blk g2 T2 #[.pointer (some ⟨g, 0, none⟩)], SX.Ent.blk g3 T3 #[.int .i64 p, .int .i64 r, .int .i64 k]]) (hm : m.ok) (hr : okR p r k) :
    Calls Try.prog 34 #[.pointer (some ⟨g2, 0, none⟩), .pointer (some ⟨g3, 0, none⟩)] w (SX.Ret fun v w' => v = .tuple #[.bool (answerS m p r k).1, .int .i64 (answerS m p r k).2.1] ∧ SX.St w (SX.idsOf [SX.Ent.blk g T m.cells.toArray, SX.Ent.blk g2 T2 #[.pointer (some ⟨g, 0, none⟩)], SX.Ent.blk g3 T3 #[.int .i64 p, .int .i64 r, .int .i64 k]]) w' [SX.Ent.blk g T (answerS m p r k).2.2.cells.toArray, SX.Ent.blk g2 T2 #[.pointer (some ⟨g, 0, none⟩)], SX.Ent.blk g3 T3 #[.int .i64 p, .int .i64 r, .int .i64 k]]) := by
  generalize hM : SX.idsOf [SX.Ent.blk g T m.cells.toArray, SX.Ent.blk g2 T2 #[.pointer (some ⟨g, 0, none⟩)], SX.Ent.blk g3 T3 #[.int .i64 p, .int .i64 r, .int .i64 k]] = M at *
  have hmb := hm.bound (k := k) hr.2.2
  obtain ⟨h1, h2, h3, h4, h5, h6, h7, h8, h9, h10⟩ := hm
  have h11 := h1.2.2.2.1
  replace hs : SX.St w M w [SX.Ent.blk g T #[.int .u64 (m).id, .int .i64 (m).rnt, .int .i64 (m).win, .int .i64 (m).con, .int .i64 (m).max, .int .i64 (m).st, .int .i64 (m).now, .int .i64 (m).due, .int .i64 (m).frm, .int .i64 (m).pre, .int .i64 (m).att, .int .i64 (m).bnd, .int .i64 (m).rn], SX.Ent.blk g2 T2 #[.pointer (some ⟨g, 0, none⟩)], SX.Ent.blk g3 T3 #[.int .i64 p, .int .i64 r, .int .i64 k]] := hs
  refine Z.enter Try.func34 rfl Try.ntmps34 rfl rfl ?_
  refine Z.seq ?_
  refine Z.region ?_
  refine Z.lb 2 rfl ?_
  refine Z.lnil ?_
  refine Z.only [0, 1] rfl ?_
  refine Z.nthen ?_
  refine Z.seq ?_
  refine Z.block ?_
  refine Z.seq ?_
  refine Z.drawK (fun _ => true) mixed hs ?_
  clear hs; intro wd3 hs
  refine Z.t 0 rfl rfl rfl (by rfl) (by kernel_rfl) ⟨_, hs, by first | (simp; done) | exact fun e he => List.mem_append_right _ he⟩ (by first | exact Z.Yd.load rfl Try.isAgg25 (fun _ => Z.cellB (by first | ((repeat (first | exact List.mem_cons_self | refine List.mem_cons_of_mem _ ?_ | refine List.mem_append_right _ ?_)); done) | fail) rfl) | exact Z.Yd.load rfl Try.isAgg25 (fun _ => Z.cellO (by assumption) (by simp) (by assumption)) | fail "load 3.0") ?_
  refine Z.t 1 rfl rfl rfl (by rfl) (by kernel_rfl) ⟨_, hs, by first | (simp; done) | exact fun e he => List.mem_append_right _ he⟩ (Z.Yd.nilc rfl rfl) ?_
  refine Z.t 2 rfl rfl rfl (by rfl) (by kernel_rfl) ⟨_, hs, by first | (simp; done) | exact fun e he => List.mem_append_right _ he⟩ (Z.Yd.fieldA (m := 6) rfl (by kernel_rfl)) ?_
  refine Z.t 3 rfl rfl rfl (by rfl) (by kernel_rfl) ⟨_, hs, by first | (simp; done) | exact fun e he => List.mem_append_right _ he⟩ (by first | exact Z.Yd.load rfl Try.isAgg3 (fun _ => Z.cellB (by first | ((repeat (first | exact List.mem_cons_self | refine List.mem_cons_of_mem _ ?_ | refine List.mem_append_right _ ?_)); done) | fail) rfl) | exact Z.Yd.load rfl Try.isAgg3 (fun _ => Z.cellO (by assumption) (by simp) (by assumption)) | fail "load 3.3") ?_
  refine Z.t 4 rfl rfl rfl (by rfl) (by kernel_rfl) ⟨_, hs, by first | (simp; done) | exact fun e he => List.mem_append_right _ he⟩ (by first | exact Z.Yd.load rfl Try.isAgg25 (fun _ => Z.cellB (by first | ((repeat (first | exact List.mem_cons_self | refine List.mem_cons_of_mem _ ?_ | refine List.mem_append_right _ ?_)); done) | fail) rfl) | exact Z.Yd.load rfl Try.isAgg25 (fun _ => Z.cellO (by assumption) (by simp) (by assumption)) | fail "load 3.4") ?_
  refine Z.t 5 rfl rfl rfl (by rfl) (by kernel_rfl) ⟨_, hs, by first | (simp; done) | exact fun e he => List.mem_append_right _ he⟩ (Z.Yd.nilc rfl rfl) ?_
  refine Z.t 6 rfl rfl rfl (by rfl) (by kernel_rfl) ⟨_, hs, by first | (simp; done) | exact fun e he => List.mem_append_right _ he⟩ (Z.Yd.fieldA (m := 8) rfl (by kernel_rfl)) ?_
  refine Z.t 7 rfl rfl rfl (by rfl) (by kernel_rfl) ⟨_, hs, by first | (simp; done) | exact fun e he => List.mem_append_right _ he⟩ (by first | exact Z.Yd.load rfl Try.isAgg3 (fun _ => Z.cellB (by first | ((repeat (first | exact List.mem_cons_self | refine List.mem_cons_of_mem _ ?_ | refine List.mem_append_right _ ?_)); done) | fail) rfl) | exact Z.Yd.load rfl Try.isAgg3 (fun _ => Z.cellO (by assumption) (by simp) (by assumption)) | fail "load 3.7") ?_
  refine Z.tb [8, 9] (by kernel_rfl) rfl ⟨_, hs, by first | (simp; done) | exact fun e he => List.mem_append_right _ he⟩ rfl ?_
  refine Z.td (by rfl) (by kernel_rfl) ?_
  refine Z.only [0, 1, 21] rfl ?_
  refine Z.nthen ?_
  refine Z.cond rfl (fun hc3 => ?_) (fun hc3 => ?_)
  · first
      | (exfalso; simp at hc3 <;> omega)
      | (
        (try simp at hc3)
        have e : answerS m p r k = (false, 8, m) := if_neg (by omega)
        rw [e]
        refine Z.seq ?_
        refine Z.region ?_
        refine Z.lb 2 rfl ?_
        refine Z.lnil ?_
        refine Z.only [2, 3] rfl ?_
        refine Z.nthen ?_
        refine Z.ret ?_
        repeat (first | refine Z.rthen ?_ | refine Z.rblock ?_ | refine Z.rscope ?_)
        -- ret#0
        refine Z.out2 (by exact ⟨rfl, rfl, trivial⟩) ?_
        exact ⟨_, rfl, rfl, hs⟩
        )
  · first
      | (exfalso; simp at hc3 <;> omega)
      | (
        (try simp at hc3)
        refine Z.seq ?_
        refine Z.drawK (fun _ => true) mixed hs ?_
        clear hs; intro wd5 hs
        refine Z.t 0 rfl rfl rfl (by rfl) (by kernel_rfl) ⟨_, hs, by first | (simp; done) | exact fun e he => List.mem_append_right _ he⟩ (Z.Yd.fieldA (m := 0) rfl (by kernel_rfl)) ?_
        refine Z.t 1 rfl rfl rfl (by rfl) (by kernel_rfl) ⟨_, hs, by first | (simp; done) | exact fun e he => List.mem_append_right _ he⟩ (by first | exact Z.Yd.load rfl Try.isAgg3 (fun _ => Z.cellB (by first | ((repeat (first | exact List.mem_cons_self | refine List.mem_cons_of_mem _ ?_ | refine List.mem_append_right _ ?_)); done) | fail) rfl) | exact Z.Yd.load rfl Try.isAgg3 (fun _ => Z.cellO (by assumption) (by simp) (by assumption)) | fail "load 5.1") ?_
        refine Z.t 2 rfl rfl rfl (by rfl) (by kernel_rfl) ⟨_, hs, by first | (simp; done) | exact fun e he => List.mem_append_right _ he⟩ (by first | exact Z.Yd.load rfl Try.isAgg25 (fun _ => Z.cellB (by first | ((repeat (first | exact List.mem_cons_self | refine List.mem_cons_of_mem _ ?_ | refine List.mem_append_right _ ?_)); done) | fail) rfl) | exact Z.Yd.load rfl Try.isAgg25 (fun _ => Z.cellO (by assumption) (by simp) (by assumption)) | fail "load 5.2") ?_
        refine Z.t 3 rfl rfl rfl (by rfl) (by kernel_rfl) ⟨_, hs, by first | (simp; done) | exact fun e he => List.mem_append_right _ he⟩ (Z.Yd.nilc rfl rfl) ?_
        refine Z.t 4 rfl rfl rfl (by rfl) (by kernel_rfl) ⟨_, hs, by first | (simp; done) | exact fun e he => List.mem_append_right _ he⟩ (Z.Yd.fieldA (m := 9) rfl (by kernel_rfl)) ?_
        refine Z.t 5 rfl rfl rfl (by rfl) (by kernel_rfl) ⟨_, hs, by first | (simp; done) | exact fun e he => List.mem_append_right _ he⟩ (by first | exact Z.Yd.load rfl Try.isAgg3 (fun _ => Z.cellB (by first | ((repeat (first | exact List.mem_cons_self | refine List.mem_cons_of_mem _ ?_ | refine List.mem_append_right _ ?_)); done) | fail) rfl) | exact Z.Yd.load rfl Try.isAgg3 (fun _ => Z.cellO (by assumption) (by simp) (by assumption)) | fail "load 5.5") ?_
        refine Z.tb [6, 7] (by kernel_rfl) rfl ⟨_, hs, by first | (simp; done) | exact fun e he => List.mem_append_right _ he⟩ rfl ?_
        refine Z.td (by rfl) (by kernel_rfl) ?_
        refine Z.only [0, 1, 31] rfl ?_
        refine Z.nthen ?_
        refine Z.cond rfl (fun hc5 => ?_) (fun hc5 => ?_)
        · first
            | (exfalso; simp at hc5 <;> omega)
            | (
              (try simp at hc5)
              have e : answerS m p r k = (false, 0, m) := by unfold answerS; rw [if_pos (by omega), if_neg (by assumption)]
              rw [e]
              refine Z.seq ?_
              refine Z.region ?_
              refine Z.lb 2 rfl ?_
              refine Z.lnil ?_
              refine Z.only [2, 3] rfl ?_
              refine Z.nthen ?_
              refine Z.ret ?_
              repeat (first | refine Z.rthen ?_ | refine Z.rblock ?_ | refine Z.rscope ?_)
              -- ret#1
              refine Z.out2 (by exact ⟨rfl, rfl, trivial⟩) ?_
              exact ⟨_, rfl, rfl, hs⟩
              )
        · first
            | (exfalso; simp at hc5 <;> omega)
            | (
              (try simp at hc5)
              refine Z.seq ?_
              refine Z.region ?_
              refine Z.l rfl rfl (by rfl) (Z.keepS hs) (Z.Yd.fieldA (m := 1) rfl (by kernel_rfl)) ?_
              refine Z.l rfl rfl (by rfl) (Z.keepS hs) (by first | exact Z.Yd.load rfl Try.isAgg3 (fun _ => Z.cellB (by first | ((repeat (first | exact List.mem_cons_self | refine List.mem_cons_of_mem _ ?_ | refine List.mem_append_right _ ?_)); done) | fail) rfl) | exact Z.Yd.load rfl Try.isAgg3 (fun _ => Z.cellO (by assumption) (by simp) (by assumption)) | fail "load 7.1") ?_
              refine Z.lb 2 rfl ?_
              refine Z.lnil ?_
              refine Z.only [0, 1, 39] rfl ?_
              refine Z.nthen ?_
              refine Z.cond rfl (fun hc7 => ?_) (fun hc7 => ?_)
              · first
                  | (exfalso; simp at hc7 <;> omega)
                  | (
                    (try simp at hc7)
                    have e : answerS m p r k = (true, 0, failV { m with bnd := k }) := by unfold answerS; rw [if_pos (by omega), if_pos (by assumption), if_pos (by assumption)]
                    rw [e]
                    refine Z.seq ?_
                    refine Z.region ?_
                    refine Z.l rfl rfl (by rfl) (Z.keepS hs) (by first | exact Z.Yd.load rfl Try.isAgg25 (fun _ => Z.cellB (by first | ((repeat (first | exact List.mem_cons_self | refine List.mem_cons_of_mem _ ?_ | refine List.mem_append_right _ ?_)); done) | fail) rfl) | exact Z.Yd.load rfl Try.isAgg25 (fun _ => Z.cellO (by assumption) (by simp) (by assumption)) | fail "load 8.0") ?_
                    refine Z.l rfl rfl (by rfl) (Z.keepS hs) (Z.Yd.fieldA (m := 2) rfl (by kernel_rfl)) ?_
                    refine Z.l rfl rfl (by rfl) (Z.keepS hs) (by first | exact Z.Yd.load rfl Try.isAgg3 (fun _ => Z.cellB (by first | ((repeat (first | exact List.mem_cons_self | refine List.mem_cons_of_mem _ ?_ | refine List.mem_append_right _ ?_)); done) | fail) rfl) | exact Z.Yd.load rfl Try.isAgg3 (fun _ => Z.cellO (by assumption) (by simp) (by assumption)) | fail "load 8.2") ?_
                    refine Z.l rfl rfl (by rfl) (Z.keepS hs) (Z.Yd.nilc rfl rfl) ?_
                    refine Z.l rfl rfl (by rfl) (Z.keepS hs) (Z.Yd.fieldA (m := 11) rfl (by kernel_rfl)) ?_
                    refine Z.le rfl trivial ?_
                    first | refine Z.ZO.store rfl rfl hs Try.sizeOf3 rfl rfl rfl (by first | exact SX.at0 | exact SX.at1 | exact SX.at2 | exact SX.at3 | exact SX.at4 | exact SX.at5 | exact Z.at6 | exact Z.at7 | exact Z.at8 | exact Z.at9 | exact Z.at10 | exact Z.at11 | exact Z.at12) (by first | (simp; done) | (simp; omega)) ?_ | refine Z.ZO.storeR rfl rfl hs Try.sizeOf3 rfl rfl rfl (by first | exact SX.at0 | exact SX.at1 | exact SX.at2 | exact SX.at3 | exact SX.at4 | exact SX.at5 | exact Z.at6 | exact Z.at7 | exact Z.at8 | exact Z.at9 | exact Z.at10 | exact Z.at11 | exact Z.at12) (by first | omega | (simp [ints_length]; done) | (simp [ints_length]; omega)) ?_
                    clear hs; intro ws hs
                    simp only [Nat.zero_add, Nat.add_zero, Nat.reduceAdd, Int.reduceToNat, Nat.reduceMul, List.set_cons_zero, List.set_cons_succ, List.setIfInBounds_toArray] at hs
                    refine Z.lnil ?_
                    refine Z.only [0] rfl ?_
                    refine Z.nthen ?_
                    refine Z.region ?_
                    refine Z.l rfl rfl (by rfl) (Z.keepS hs) (by first | exact Z.Yd.load rfl Try.isAgg25 (fun _ => Z.cellB (by first | ((repeat (first | exact List.mem_cons_self | refine List.mem_cons_of_mem _ ?_ | refine List.mem_append_right _ ?_)); done) | fail) rfl) | exact Z.Yd.load rfl Try.isAgg25 (fun _ => Z.cellO (by assumption) (by simp) (by assumption)) | fail "load 9.0") ?_
                    refine Z.le rfl trivial ?_
                    refine Z.ZO.call rfl rfl (by rfl) rfl rfl Try.call35 rfl (ac_fail g T { m with bnd := k } _ (hs.lend (L1 := [_])) hmb) ?_
                    rintro v9_1 w9_1 ⟨rfl, hz⟩
                    replace hs := hs.regain (L1 := [_]) hz
                    refine Z.lnil ?_
                    refine Z.only [] rfl ?_
                    refine Z.nblock ?_
                    refine Z.nthen ?_
                    refine Z.seq ?_
                    refine Z.region ?_
                    refine Z.lb 2 rfl ?_
                    refine Z.lnil ?_
                    refine Z.only [2, 3] rfl ?_
                    refine Z.nthen ?_
                    refine Z.ret ?_
                    -- ret#2
                    refine Z.out2 (by exact ⟨rfl, rfl, trivial⟩) ?_
                    exact ⟨_, rfl, rfl, hs⟩
                    )
              · first
                  | (exfalso; simp at hc7 <;> omega)
                  | (
                    (try simp at hc7)
                    have e : answerS m p r k = (true, 0, { m with rn := r, st := 3, due := m.now + m.con }) := by unfold answerS; rw [if_pos (by omega), if_pos (by assumption), if_neg (by assumption)]
                    rw [e]
                    refine Z.seq ?_
                    refine Z.region ?_
                    refine Z.l rfl rfl (by rfl) (Z.keepS hs) (by first | exact Z.Yd.load rfl Try.isAgg25 (fun _ => Z.cellB (by first | ((repeat (first | exact List.mem_cons_self | refine List.mem_cons_of_mem _ ?_ | refine List.mem_append_right _ ?_)); done) | fail) rfl) | exact Z.Yd.load rfl Try.isAgg25 (fun _ => Z.cellO (by assumption) (by simp) (by assumption)) | fail "load 1.0") ?_
                    refine Z.l rfl rfl (by rfl) (Z.keepS hs) (Z.Yd.fieldA (m := 1) rfl (by kernel_rfl)) ?_
                    refine Z.l rfl rfl (by rfl) (Z.keepS hs) (by first | exact Z.Yd.load rfl Try.isAgg3 (fun _ => Z.cellB (by first | ((repeat (first | exact List.mem_cons_self | refine List.mem_cons_of_mem _ ?_ | refine List.mem_append_right _ ?_)); done) | fail) rfl) | exact Z.Yd.load rfl Try.isAgg3 (fun _ => Z.cellO (by assumption) (by simp) (by assumption)) | fail "load 1.2") ?_
                    refine Z.l rfl rfl (by rfl) (Z.keepS hs) (Z.Yd.nilc rfl rfl) ?_
                    refine Z.l rfl rfl (by rfl) (Z.keepS hs) (Z.Yd.fieldA (m := 12) rfl (by kernel_rfl)) ?_
                    refine Z.le rfl trivial ?_
                    first | refine Z.ZO.store rfl rfl hs Try.sizeOf3 rfl rfl rfl (by first | exact SX.at0 | exact SX.at1 | exact SX.at2 | exact SX.at3 | exact SX.at4 | exact SX.at5 | exact Z.at6 | exact Z.at7 | exact Z.at8 | exact Z.at9 | exact Z.at10 | exact Z.at11 | exact Z.at12) (by first | (simp; done) | (simp; omega)) ?_ | refine Z.ZO.storeR rfl rfl hs Try.sizeOf3 rfl rfl rfl (by first | exact SX.at0 | exact SX.at1 | exact SX.at2 | exact SX.at3 | exact SX.at4 | exact SX.at5 | exact Z.at6 | exact Z.at7 | exact Z.at8 | exact Z.at9 | exact Z.at10 | exact Z.at11 | exact Z.at12) (by first | omega | (simp [ints_length]; done) | (simp [ints_length]; omega)) ?_
                    clear hs; intro ws hs
                    simp only [Nat.zero_add, Nat.add_zero, Nat.reduceAdd, Int.reduceToNat, Nat.reduceMul, List.set_cons_zero, List.set_cons_succ, List.setIfInBounds_toArray] at hs
                    refine Z.lnil ?_
                    refine Z.only [0] rfl ?_
                    refine Z.nthen ?_
                    refine Z.drawK (fun j => j != 11) mixed hs ?_
                    clear hs; intro wd2 hs
                    refine Z.t 0 rfl rfl rfl (by rfl) (by kernel_rfl) ⟨_, hs, by first | (simp; done) | exact fun e he => List.mem_append_right _ he⟩ (by first | exact Z.Yd.load rfl Try.isAgg25 (fun _ => Z.cellB (by first | ((repeat (first | exact List.mem_cons_self | refine List.mem_cons_of_mem _ ?_ | refine List.mem_append_right _ ?_)); done) | fail) rfl) | exact Z.Yd.load rfl Try.isAgg25 (fun _ => Z.cellO (by assumption) (by simp) (by assumption)) | fail "load 2.0") ?_
                    refine Z.tX 1 [1, 2, 3, 4, 10, 11] rfl rfl rfl (by rfl) (by kernel_rfl) ⟨_, hs, by first | (simp; done) | exact fun e he => List.mem_append_right _ he⟩ (by first | exact Z.Yd.load rfl Try.isAgg25 (fun _ => Z.cellB (by first | ((repeat (first | exact List.mem_cons_self | refine List.mem_cons_of_mem _ ?_ | refine List.mem_append_right _ ?_)); done) | fail) rfl) | exact Z.Yd.load rfl Try.isAgg25 (fun _ => Z.cellO (by assumption) (by simp) (by assumption)) | fail "load 2.1") ?_
                    refine Z.tX 2 [2, 3, 4, 10, 11] rfl rfl rfl (by rfl) (by kernel_rfl) ⟨_, hs, by first | (simp; done) | exact fun e he => List.mem_append_right _ he⟩ (Z.Yd.nilc rfl rfl) ?_
                    refine Z.tX 3 [3, 4, 10, 11] rfl rfl rfl (by rfl) (by kernel_rfl) ⟨_, hs, by first | (simp; done) | exact fun e he => List.mem_append_right _ he⟩ (Z.Yd.fieldA (m := 6) rfl (by kernel_rfl)) ?_
                    refine Z.tX 4 [4, 10, 11] rfl rfl rfl (by rfl) (by kernel_rfl) ⟨_, hs, by first | (simp; done) | exact fun e he => List.mem_append_right _ he⟩ (by first | exact Z.Yd.load rfl Try.isAgg3 (fun _ => Z.cellB (by first | ((repeat (first | exact List.mem_cons_self | refine List.mem_cons_of_mem _ ?_ | refine List.mem_append_right _ ?_)); done) | fail) rfl) | exact Z.Yd.load rfl Try.isAgg3 (fun _ => Z.cellO (by assumption) (by simp) (by assumption)) | fail "load 2.4") ?_
                    refine Z.tn 5 rfl rfl (by kernel_rfl) rfl trivial ?_
                    refine Z.ZO.quiet rfl (by rfl) (Z.keepS hs) (by first | exact Z.Yd.load rfl Try.isAgg25 (fun _ => Z.cellB (by first | ((repeat (first | exact List.mem_cons_self | refine List.mem_cons_of_mem _ ?_ | refine List.mem_append_right _ ?_)); done) | fail) rfl) | exact Z.Yd.load rfl Try.isAgg25 (fun _ => Z.cellO (by assumption) (by simp) (by assumption)) | fail "load 2.5") ?_
                    refine Z.tk (Dn := fun j => j != 11) (i := 5) (fun _ => ⟨_, hs, by first | (simp; done) | exact fun e he => List.mem_append_right _ he⟩) ?_
                    refine Z.tn 6 rfl rfl (by kernel_rfl) rfl trivial ?_
                    refine Z.ZO.quiet rfl (by rfl) (Z.keepS hs) (Z.Yd.nilc rfl rfl) ?_
                    refine Z.tk (Dn := fun j => j != 11) (i := 6) (fun _ => ⟨_, hs, by first | (simp; done) | exact fun e he => List.mem_append_right _ he⟩) ?_
                    refine Z.tn 7 rfl rfl (by kernel_rfl) rfl trivial ?_
                    refine Z.ZO.quiet rfl (by rfl) (Z.keepS hs) (Z.Yd.fieldA (m := 0) rfl (by kernel_rfl)) ?_
                    refine Z.tk (Dn := fun j => j != 11) (i := 7) (fun _ => ⟨_, hs, by first | (simp; done) | exact fun e he => List.mem_append_right _ he⟩) ?_
                    refine Z.tn 8 rfl rfl (by kernel_rfl) rfl trivial ?_
                    refine Z.ZO.quiet rfl (by rfl) (Z.keepS hs) (Z.Yd.fieldA (m := 3) rfl (by kernel_rfl)) ?_
                    refine Z.tk (Dn := fun j => j != 11) (i := 8) (fun _ => ⟨_, hs, by first | (simp; done) | exact fun e he => List.mem_append_right _ he⟩) ?_
                    refine Z.tn 9 rfl rfl (by kernel_rfl) rfl trivial ?_
                    refine Z.ZO.quiet rfl (by rfl) (Z.keepS hs) (by first | exact Z.Yd.load rfl Try.isAgg3 (fun _ => Z.cellB (by first | ((repeat (first | exact List.mem_cons_self | refine List.mem_cons_of_mem _ ?_ | refine List.mem_append_right _ ?_)); done) | fail) rfl) | exact Z.Yd.load rfl Try.isAgg3 (fun _ => Z.cellO (by assumption) (by simp) (by assumption)) | fail "load 2.9") ?_
                    refine Z.tk (Dn := fun j => j != 11) (i := 9) (fun _ => ⟨_, hs, by first | (simp; done) | exact fun e he => List.mem_append_right _ he⟩) ?_
                    refine Z.t 10 rfl rfl rfl (by rfl) (by kernel_rfl) ⟨_, hs, by first | (simp; done) | exact fun e he => List.mem_append_right _ he⟩ (Z.Yd.add rfl rfl (fun hG => Z.wi64 (by first | omega | (have hG' := Z.gh rfl hG; simp at hG'; omega)))) ?_
                    refine Z.tn 11 rfl rfl (by kernel_rfl) rfl trivial ?_
                    refine Z.ZO.call rfl rfl (by rfl) rfl rfl Try.call31 rfl (ac_enter g T { m with rn := r } 3 (m.now + m.con) _ (hs.lend (L1 := [_]))) ?_
                    rintro v2_11 w2_11 ⟨rfl, hz⟩
                    replace hs := hs.regain (L1 := [_]) hz
                    refine Z.tk (Dn := fun j => j != 11) (i := 11) (fun h => absurd h (by decide)) ?_
                    refine Z.td (by rfl) (by kernel_rfl) ?_
                    refine Z.only [] rfl ?_
                    refine Z.nblock ?_
                    refine Z.nthen ?_
                    refine Z.seq ?_
                    refine Z.region ?_
                    refine Z.lb 2 rfl ?_
                    refine Z.lnil ?_
                    refine Z.only [2, 3] rfl ?_
                    refine Z.nthen ?_
                    refine Z.ret ?_
                    -- ret#3
                    refine Z.out2 (by exact ⟨rfl, rfl, trivial⟩) ?_
                    exact ⟨_, rfl, rfl, hs⟩
                    )
              )
        )
theorem ac_answer (g T : Nat) (m : AcV) (t p r k : Int) (w : World) (hs : SX.St w (SX.idsOf [SX.Ent.blk g T m.cells.toArray]) w [SX.Ent.blk g T m.cells.toArray]) (hm : m.ok) :
    Calls Try.prog 13 #[.pointer (some ⟨g, 0, none⟩), .int .i64 t, .agg #[.int .i64 p, .int .i64 r, .int .i64 k]] w (SX.Ret fun v w' => v = .tuple #[.bool (answerV m t p r k).2.1, .int .i64 (answerV m t p r k).2.2] ∧ SX.St w (SX.idsOf [SX.Ent.blk g T m.cells.toArray]) w' [SX.Ent.blk g T (answerV m t p r k).1.cells.toArray]) := by
  generalize hM : SX.idsOf [SX.Ent.blk g T m.cells.toArray] = M at *
  obtain ⟨X, hX⟩ : ∃ X : Value × Int × AcV, X = if decide (okR p r k) = true ∧ okT t then (if (0 : Int) = 0 then (if (tickV m t).st ∈ [2] then (.bool (answerS (tickV m t) p r k).1, (answerS (tickV m t) p r k).2.1, (answerS (tickV m t) p r k).2.2) else (.bool false, 8, tickV m t)) else (.bool false, 0, m)) else (.bool false, 2, m) := ⟨_, rfl⟩
  have hE : X.1 = .bool (answerV m t p r k).2.1 ∧ X.2.1 = (answerV m t p r k).2.2 ∧ X.2.2 = (answerV m t p r k).1 := by
    rw [hX]
    by_cases h1 : okT t ∧ okR p r k
    · have hV : answerV m t p r k = if (tickV m t).st = 2 ∧ (tickV m t).frm ≤ (tickV m t).now then (if p = (tickV m t).pre then (if r = 0 then (failV { tickV m t with bnd := k }, true, 0) else ({ tickV m t with rn := r, st := 3, due := (tickV m t).now + (tickV m t).con }, true, 0)) else (tickV m t, false, 0)) else (tickV m t, false, 8) := if_pos h1
      rw [hV, if_pos ⟨decide_eq_true h1.2, h1.1⟩, if_pos rfl]
      by_cases h2 : (tickV m t).st = 2
      · rw [if_pos (show (tickV m t).st ∈ [2] by rw [h2]; decide)]
        unfold answerS
        by_cases h3 : (tickV m t).frm ≤ (tickV m t).now
        · rw [if_pos h3, if_pos (show (tickV m t).st = 2 ∧ (tickV m t).frm ≤ (tickV m t).now from ⟨h2, h3⟩)]
          split
          · split <;> exact ⟨rfl, rfl, rfl⟩
          · exact ⟨rfl, rfl, rfl⟩
        · rw [if_neg h3, if_neg (show ¬ ((tickV m t).st = 2 ∧ (tickV m t).frm ≤ (tickV m t).now) from fun h => h3 h.2)]
          exact ⟨rfl, rfl, rfl⟩
      · rw [if_neg (show ¬ (tickV m t).st ∈ [2] by simpa using h2), if_neg (show ¬ ((tickV m t).st = 2 ∧ (tickV m t).frm ≤ (tickV m t).now) from fun h => h2 h.1)]
        exact ⟨rfl, rfl, rfl⟩
    · have hV : answerV m t p r k = (m, false, 2) := if_neg h1
      rw [hV, if_neg (fun h => h1 ⟨h.2, of_decide_eq_true h.1⟩)]
      exact ⟨rfl, rfl, rfl⟩
  refine Z.enter Try.func13 rfl Try.ntmps13 rfl rfl ?_
  refine Z.seq ?_
  refine Z.region ?_
  refine Z.le rfl trivial ?_
  refine Z.ZO.box rfl rfl (by rfl) rfl rfl hs ?_
  clear hs; intro g3 w3 hs
  refine Z.le rfl trivial ?_
  refine Z.ZO.box rfl rfl (by rfl) rfl rfl hs ?_
  clear hs; intro g5 w5 hs
  refine Z.lb 2 rfl ?_
  refine Z.lnil ?_
  refine Z.only [1, 3, 5] rfl ?_
  refine Z.nthen ?_
  refine Z.seq ?_
  refine Z.cutt (ι := Nat) [1, 3, 5] rfl (fun _ => [(8, [], .bool (decide (okR p r k)))]) (fun _ wr => SX.St w M wr [SX.Ent.blk g5 36 #[.int .i64 p, .int .i64 r, .int .i64 k], SX.Ent.blk g3 25 #[.pointer (some ⟨g, 0, none⟩)], SX.Ent.blk g T m.cells.toArray]) ?_ ?_
  · skip
    refine Z.region ?_
    refine Z.l rfl rfl (by rfl) (Z.keepS hs) (Z.Yd.fieldA (m := 0) rfl (by kernel_rfl)) ?_
    refine Z.l rfl rfl (by rfl) (Z.keepS hs) (by first | exact Z.Yd.load rfl Try.isAgg3 (fun _ => Z.cellB (by first | ((repeat (first | exact List.mem_cons_self | refine List.mem_cons_of_mem _ ?_ | refine List.mem_append_right _ ?_)); done) | fail) rfl) | exact Z.Yd.load rfl Try.isAgg3 (fun _ => Z.cellO (by assumption) (by simp) (by assumption)) | fail "load 1.1") ?_
    refine Z.le rfl trivial ?_
    refine Z.ZO.call rfl rfl (by rfl) rfl rfl Try.call27 rfl (ac_inside p 0 63 _) ?_
    rintro v1_2 w1_2 ⟨rfl, hy⟩
    replace hs := hs.call hy
    clear hy
    try simp only [List.cons_append, List.nil_append, List.append_nil] at hs
    refine Z.lb 1 rfl ?_
    refine Z.split (s := 12) rfl (fun hsp12 => ?_) (fun hsp12 => ?_)
    · first
        | (exfalso; simp at hsp12 <;> omega)
        | (
          refine Z.yes (s := 12) (b := true) rfl hsp12 rfl ?_
          (try simp at hsp12)
          refine Z.l rfl rfl (by rfl) (Z.keepS hs) (Z.Yd.fieldA (m := 1) rfl (by kernel_rfl)) ?_
          refine Z.l rfl rfl (by rfl) (Z.keepS hs) (by first | exact Z.Yd.load rfl Try.isAgg3 (fun _ => Z.cellB (by first | ((repeat (first | exact List.mem_cons_self | refine List.mem_cons_of_mem _ ?_ | refine List.mem_append_right _ ?_)); done) | fail) rfl) | exact Z.Yd.load rfl Try.isAgg3 (fun _ => Z.cellO (by assumption) (by simp) (by assumption)) | fail "load 1.5") ?_
          refine Z.yes (s := 12) (b := true) rfl rfl rfl ?_
          refine Z.le rfl (by exact ⟨rfl, trivial⟩) ?_
          refine Z.ZO.call rfl rfl (by rfl) rfl rfl Try.call27 rfl (ac_inside r 0 65535 _) ?_
          rintro v1_6 w1_6 ⟨rfl, hy⟩
          replace hs := hs.call hy
          clear hy
          try simp only [List.cons_append, List.nil_append, List.append_nil] at hs
          refine Z.l rfl rfl (by rfl) (Z.keepS hs) (Z.Yd.pickT rfl rfl) ?_
          refine Z.lb 1 rfl ?_
          refine Z.split (s := 17) rfl (fun hsp17 => ?_) (fun hsp17 => ?_)
          · first
              | (exfalso; simp at hsp17 <;> omega)
              | (
                refine Z.yes (s := 17) (b := true) rfl hsp17 rfl ?_
                (try simp at hsp17)
                refine Z.l rfl rfl (by rfl) (Z.keepS hs) (Z.Yd.fieldA (m := 2) rfl (by kernel_rfl)) ?_
                refine Z.l rfl rfl (by rfl) (Z.keepS hs) (by first | exact Z.Yd.load rfl Try.isAgg3 (fun _ => Z.cellB (by first | ((repeat (first | exact List.mem_cons_self | refine List.mem_cons_of_mem _ ?_ | refine List.mem_append_right _ ?_)); done) | fail) rfl) | exact Z.Yd.load rfl Try.isAgg3 (fun _ => Z.cellO (by assumption) (by simp) (by assumption)) | fail "load 1.10") ?_
                refine Z.yes (s := 17) (b := true) rfl rfl rfl ?_
                refine Z.le rfl (by exact ⟨rfl, trivial⟩) ?_
                refine Z.ZO.call rfl rfl (by rfl) rfl rfl Try.call27 rfl (ac_inside k 0 960 _) ?_
                rintro v1_11 w1_11 ⟨rfl, hy⟩
                replace hs := hs.call hy
                clear hy
                try simp only [List.cons_append, List.nil_append, List.append_nil] at hs
                refine Z.l rfl rfl (by rfl) (Z.keepS hs) (Z.Yd.pickT rfl rfl) ?_
                refine Z.lb 1 rfl ?_
                refine Z.lnil ?_
                refine Z.only [1, 3, 5, 8] rfl ?_
                refine Z.nthen ?_
                exact Z.meet 0 (by refine ⟨?_, ?_, ?_, ?_, trivial⟩ <;> first | rfl | (refine Z.lookv rfl ?_; congr 1; first | exact (decide_eq_false (by unfold okR; omega)).symm | (rw [decide_eq_decide]; unfold okR; omega))) hs
                )
          · first
              | (exfalso; simp at hsp17 <;> omega)
              | (
                refine Z.yes (s := 17) (b := false) rfl hsp17 rfl ?_
                (try simp at hsp17)
                refine Z.ls rfl rfl rfl (by rfl) ?_
                refine Z.ls rfl rfl rfl (by rfl) ?_
                refine Z.ls rfl rfl rfl (by rfl) ?_
                refine Z.l rfl rfl (by rfl) (Z.keepS hs) (Z.Yd.pickF rfl rfl) ?_
                refine Z.lb 1 rfl ?_
                refine Z.lnil ?_
                refine Z.only [1, 3, 5, 8] rfl ?_
                refine Z.nthen ?_
                exact Z.meet 0 (by refine ⟨?_, ?_, ?_, ?_, trivial⟩ <;> first | rfl | (refine Z.lookv rfl ?_; congr 1; first | exact (decide_eq_false (by unfold okR; omega)).symm | (rw [decide_eq_decide]; unfold okR; omega))) hs
                )
          )
    · first
        | (exfalso; simp at hsp12 <;> omega)
        | (
          refine Z.yes (s := 12) (b := false) rfl hsp12 rfl ?_
          (try simp at hsp12)
          refine Z.ls rfl rfl rfl (by rfl) ?_
          refine Z.ls rfl rfl rfl (by rfl) ?_
          refine Z.ls rfl rfl rfl (by rfl) ?_
          refine Z.l rfl rfl (by rfl) (Z.keepS hs) (Z.Yd.pickF rfl rfl) ?_
          refine Z.lb 1 rfl ?_
          refine Z.split (s := 17) rfl (fun hsp17 => ?_) (fun hsp17 => ?_)
          · first
              | (exfalso; simp at hsp17 <;> omega)
              | (
                refine Z.yes (s := 17) (b := true) rfl hsp17 rfl ?_
                (try simp at hsp17)
                refine Z.l rfl rfl (by rfl) (Z.keepS hs) (Z.Yd.fieldA (m := 2) rfl (by kernel_rfl)) ?_
                refine Z.l rfl rfl (by rfl) (Z.keepS hs) (by first | exact Z.Yd.load rfl Try.isAgg3 (fun _ => Z.cellB (by first | ((repeat (first | exact List.mem_cons_self | refine List.mem_cons_of_mem _ ?_ | refine List.mem_append_right _ ?_)); done) | fail) rfl) | exact Z.Yd.load rfl Try.isAgg3 (fun _ => Z.cellO (by assumption) (by simp) (by assumption)) | fail "load 1.10") ?_
                refine Z.yes (s := 17) (b := true) rfl rfl rfl ?_
                refine Z.le rfl (by exact ⟨rfl, trivial⟩) ?_
                refine Z.ZO.call rfl rfl (by rfl) rfl rfl Try.call27 rfl (ac_inside k 0 960 _) ?_
                rintro v1_11 w1_11 ⟨rfl, hy⟩
                replace hs := hs.call hy
                clear hy
                try simp only [List.cons_append, List.nil_append, List.append_nil] at hs
                refine Z.l rfl rfl (by rfl) (Z.keepS hs) (Z.Yd.pickT rfl rfl) ?_
                refine Z.lb 1 rfl ?_
                refine Z.lnil ?_
                refine Z.only [1, 3, 5, 8] rfl ?_
                refine Z.nthen ?_
                exact Z.meet 0 (by refine ⟨?_, ?_, ?_, ?_, trivial⟩ <;> first | rfl | (refine Z.lookv rfl ?_; congr 1; first | exact (decide_eq_false (by unfold okR; omega)).symm | (rw [decide_eq_decide]; unfold okR; omega))) hs
                )
          · first
              | (exfalso; simp at hsp17 <;> omega)
              | (
                refine Z.yes (s := 17) (b := false) rfl hsp17 rfl ?_
                (try simp at hsp17)
                refine Z.ls rfl rfl rfl (by rfl) ?_
                refine Z.ls rfl rfl rfl (by rfl) ?_
                refine Z.ls rfl rfl rfl (by rfl) ?_
                refine Z.l rfl rfl (by rfl) (Z.keepS hs) (Z.Yd.pickF rfl rfl) ?_
                refine Z.lb 1 rfl ?_
                refine Z.lnil ?_
                refine Z.only [1, 3, 5, 8] rfl ?_
                refine Z.nthen ?_
                exact Z.meet 0 (by refine ⟨?_, ?_, ?_, ?_, trivial⟩ <;> first | rfl | (refine Z.lookv rfl ?_; congr 1; first | exact (decide_eq_false (by unfold okR; omega)).symm | (rw [decide_eq_decide]; unfold okR; omega))) hs
                )
          )
  · clear hs
    rintro _ w1 hs
    refine Z.only [1, 3, 5, 8] rfl ?_
    refine Z.seq ?_
    refine Z.region ?_
    refine Z.l rfl rfl (by rfl) (Z.keepS hs) (by first | exact Z.Yd.load rfl Try.isAgg25 (fun _ => Z.cellB (by first | ((repeat (first | exact List.mem_cons_self | refine List.mem_cons_of_mem _ ?_ | refine List.mem_append_right _ ?_)); done) | fail) rfl) | exact Z.Yd.load rfl Try.isAgg25 (fun _ => Z.cellO (by assumption) (by simp) (by assumption)) | fail "load 2.0") ?_
    refine Z.lb 3 rfl ?_
    refine Z.le rfl trivial ?_
    refine Z.ZO.litL (T' := 44) [(0, 1)] [.int .i64 0] rfl rfl (by rfl) rfl rfl (by intro W; kernel_rfl) hs ?_
    clear hs; intro g26 w26 hs
    replace hs : SX.St w M _ ([SX.Ent.blk g T m.cells.toArray, SX.Ent.blk g3 _ _, SX.Ent.blk g5 _ _] ++ [_]) := hs.sel [3, 2, 1, 0] (by decide)
    refine Z.le rfl trivial ?_
    refine Z.ZO.call rfl rfl (by rfl) rfl rfl Try.call29 rfl (ac_timedB g T [SX.Ent.blk g3 _ _, SX.Ent.blk g5 _ _] m t (decide (okR p r k)) 0 34 _ _ _ _ [2] _ hs.lend hm (by have h0 := Z.blk_lentj hs (j := 0) rfl; exact h0) rfl (by decide) Try.call34 _ _ _ (fun hd ht _ _ W hW ↦ ac_answer1 g T g3 _ g5 _ (tickV m t) p r k W hW.all (hm.tick ht) (by simpa using hd)) X.1 X.2.1 X.2.2 hX) ?_
    rintro v2_5 w2_5 ⟨rfl, hz⟩
    replace hs := hs.regain hz
    rw [hE.2.2] at hs
    rw [hE.1, hE.2.1]
    refine Z.lb 4 rfl ?_
    refine Z.lnil ?_
    refine Z.only [6, 7] rfl ?_
    refine Z.nthen ?_
    refine Z.ret ?_
    -- ret#0
    refine Z.out2 (by exact ⟨rfl, rfl, trivial⟩) ?_
    exact ⟨_, rfl, rfl, hs.sel [0] (by decide)⟩
/-- an identity's part in memory of its own -/
def OwnPt (lc : Int) (l : List Int) (v : Value) (w w' : World) : Prop := ∃ B c co, v = .agg #[.int .i64 lc, .slice B l.length c] ∧ SX.St w [] w' [SX.Ent.row (.slice B l.length co) 5 1 l.length (ints .u8 l)]
theorem msgL_len (m : AcV) : (msgL m).length ≤ 6 := by unfold msgL; split <;> simp
theorem ac_message (g : Nat) (m : AcV) (w : World) (hc : Cel w g m.cells) (hf : m.cfg) :
    Calls Try.prog 37 #[.pointer (some ⟨g, 0, none⟩)] w (SX.Ret fun v w' => ∃ u, v = .tuple #[u, .int .i64 0] ∧ OwnPt (msgC m) (msgL m) u w w') := by
  have hs := SX.St.start w
  obtain ⟨h1, h2, -⟩ := hf
  obtain ⟨idn, hid⟩ := Int.eq_ofNat_of_zero_le h1.1
  obtain ⟨rtn, hrt⟩ := Int.eq_ofNat_of_zero_le h2.1
  refine Z.enter Try.func37 rfl Try.ntmps37 rfl rfl ?_
  refine Z.seq ?_
  refine Z.region ?_
  refine Z.le rfl trivial ?_
  refine Z.ZO.alloc rfl rfl (by rfl) Try.zeroValue40 rfl hs ?_
  clear hs; intro g2 w2 hs
  refine Z.lb 1 rfl ?_
  refine Z.lnil ?_
  refine Z.only [0, 2] rfl ?_
  refine Z.nthen ?_
  refine Z.seq ?_
  refine Z.seq ?_
  refine Z.region ?_
  refine Z.lb 1 rfl ?_
  refine Z.l rfl rfl (by rfl) (Z.keepS hs) (Z.Yd.nilc rfl rfl) ?_
  refine Z.l rfl rfl (by rfl) (Z.keepS hs) (Z.Yd.fieldA (m := 0) rfl (by kernel_rfl)) ?_
  refine Z.l rfl rfl (by rfl) (Z.keepS hs) (Z.Yd.fieldA (m := 1) rfl (by kernel_rfl)) ?_
  refine Z.l rfl rfl (by rfl) (Z.keepS hs) (Z.Yd.load rfl Try.isAgg3 (fun _ => Z.cellO hc.1 (by simp) (hc.2 1 _ rfl))) ?_
  refine Z.lb 1 rfl ?_
  refine Z.lnil ?_
  refine Z.only [0, 2, 9] rfl ?_
  refine Z.nthen ?_
  refine Z.cond rfl (fun hc1 => ?_) (fun hc1 => ?_)
  · first
      | (exfalso; simp at hc1 <;> omega)
      | (
        (try simp at hc1)
        have e1 : msgC m = 27 := if_neg (by assumption)
        have e2 : msgL m = be 2 m.rnt := if_neg (by assumption)
        rw [e1, e2]
        refine Z.seq ?_
        refine Z.region ?_
        refine Z.lb 1 rfl ?_
        refine Z.l rfl rfl (by rfl) (Z.keepS hs) (Z.Yd.nilc rfl rfl) ?_
        refine Z.l rfl rfl (by rfl) (Z.keepS hs) (Z.Yd.fieldA (m := 0) rfl (by kernel_rfl)) ?_
        refine Z.l rfl rfl (by rfl) (Z.keepS hs) (Z.Yd.fieldA (m := 1) rfl (by kernel_rfl)) ?_
        refine Z.l rfl rfl (by rfl) (Z.keepS hs) (Z.Yd.load rfl Try.isAgg3 (fun _ => Z.cellO hc.1 (by simp) (hc.2 1 _ rfl))) ?_
        refine Z.l rfl rfl (by rfl) (Z.keepS hs) (Z.Yd.convI rfl ⟨_, Try.underlying3⟩ Try.underlying22 (fun hG => Z.wu64 (by first | omega | (have hG' := Z.gh rfl hG; simp at hG'; omega)))) ?_
        rw [hrt]
        refine Z.le rfl trivial ?_
        refine Z.ZO.call rfl rfl (by rfl) rfl rfl Try.call50 rfl (encid_ok 27 rtn _ (by omega) (.inl rfl) (by show rtn / 65536 = 0; omega)) ?_
        rintro v2_6 w2_6 ⟨u, rfl, B, co, rfl, hy⟩
        replace hs := hs.call hy
        clear hy
        try simp only [List.cons_append, List.nil_append, List.append_nil] at hs
        refine Z.lb 2 rfl ?_
        refine Z.le rfl trivial ?_
        first | refine Z.ZO.storeA rfl rfl hs rfl rfl (by kernel_rfl) (by first | (simp [Value.oneCell']; done) | (refine Z.all_one ?_; assumption)) (by first | exact SX.at0 | exact SX.at1 | exact SX.at2 | exact SX.at3 | exact SX.at4 | exact SX.at5 | exact Z.at6 | exact Z.at7 | exact Z.at8 | exact Z.at9 | exact Z.at10 | exact Z.at11 | exact Z.at12) (by rfl) ?_ | refine Z.ZO.storeP rfl rfl hs rfl rfl (by kernel_rfl) (by first | (simp [Value.oneCell']; done) | (refine Z.all_one ?_; assumption)) (by first | exact SX.at0 | exact SX.at1 | exact SX.at2 | exact SX.at3 | exact SX.at4 | exact SX.at5 | exact Z.at6 | exact Z.at7 | exact Z.at8 | exact Z.at9 | exact Z.at10 | exact Z.at11 | exact Z.at12) (by first | decide | (simp; done) | (simp; omega)) ?_ | refine Z.ZO.storePR rfl rfl hs rfl rfl (by kernel_rfl) (by first | (simp [Value.oneCell']; done) | (refine Z.all_one ?_; assumption)) (by first | exact SX.at0 | exact SX.at1 | exact SX.at2 | exact SX.at3 | exact SX.at4 | exact SX.at5 | exact Z.at6 | exact Z.at7 | exact Z.at8 | exact Z.at9 | exact Z.at10 | exact Z.at11 | exact Z.at12) (by first | decide | (simp; done) | (simp; omega)) ?_
        clear hs; intro ws hs
        simp only [Nat.zero_add, Nat.add_zero, Nat.reduceAdd, Int.reduceToNat, Nat.reduceMul, List.set_cons_zero, List.set_cons_succ, List.setIfInBounds_toArray] at hs
        try simp only [Z.putL, Nat.zero_add] at hs
        refine Z.lb 1 rfl ?_
        refine Z.lnil ?_
        refine Z.only [2, 3] rfl ?_
        refine Z.nthen ?_
        refine Z.ret ?_
        repeat (first | refine Z.rthen ?_ | refine Z.rblock ?_ | refine Z.rscope ?_)
        -- ret#0
        refine Z.out2 (by exact ⟨⟨_, rfl, Z.rvcA hs Try.isAgg40 (by first | ((repeat (first | exact List.mem_cons_self | refine List.mem_cons_of_mem _ ?_ | refine List.mem_append_right _ ?_)); done) | fail) (by exact Try.sizeOf40)⟩, rfl, trivial⟩) ?_
        exact ⟨_, rfl, _, rfl, B, _, co, rfl, hs.sel [0] (by decide)⟩
        )
  · first
      | (exfalso; simp at hc1 <;> omega)
      | (
        (try simp at hc1)
        have e1 : msgC m = 28 := if_pos (by assumption)
        have e2 : msgL m = be 6 m.id := if_pos (by assumption)
        rw [e1, e2]
        refine Z.skip ?_
        refine Z.nthen ?_
        refine Z.seq ?_
        refine Z.region ?_
        refine Z.lb 1 rfl ?_
        refine Z.l rfl rfl (by rfl) (Z.keepS hs) (Z.Yd.nilc rfl rfl) ?_
        refine Z.l rfl rfl (by rfl) (Z.keepS hs) (Z.Yd.fieldA (m := 0) rfl (by kernel_rfl)) ?_
        refine Z.l rfl rfl (by rfl) (Z.keepS hs) (Z.Yd.fieldA (m := 0) rfl (by kernel_rfl)) ?_
        refine Z.l rfl rfl (by rfl) (Z.keepS hs) (Z.Yd.load rfl Try.isAgg22 (fun _ => Z.cellO hc.1 (by simp) (hc.2 0 _ rfl))) ?_
        rw [hid]
        refine Z.le rfl trivial ?_
        refine Z.ZO.call rfl rfl (by rfl) rfl rfl Try.call50 rfl (encid_ok 28 idn _ (by omega) (.inr rfl) (by show idn / 281474976710656 = 0; omega)) ?_
        rintro v3_5 w3_5 ⟨u, rfl, B, co, rfl, hy⟩
        replace hs := hs.call hy
        clear hy
        try simp only [List.cons_append, List.nil_append, List.append_nil] at hs
        refine Z.lb 2 rfl ?_
        refine Z.le rfl trivial ?_
        first | refine Z.ZO.storeA rfl rfl hs rfl rfl (by kernel_rfl) (by first | (simp [Value.oneCell']; done) | (refine Z.all_one ?_; assumption)) (by first | exact SX.at0 | exact SX.at1 | exact SX.at2 | exact SX.at3 | exact SX.at4 | exact SX.at5 | exact Z.at6 | exact Z.at7 | exact Z.at8 | exact Z.at9 | exact Z.at10 | exact Z.at11 | exact Z.at12) (by rfl) ?_ | refine Z.ZO.storeP rfl rfl hs rfl rfl (by kernel_rfl) (by first | (simp [Value.oneCell']; done) | (refine Z.all_one ?_; assumption)) (by first | exact SX.at0 | exact SX.at1 | exact SX.at2 | exact SX.at3 | exact SX.at4 | exact SX.at5 | exact Z.at6 | exact Z.at7 | exact Z.at8 | exact Z.at9 | exact Z.at10 | exact Z.at11 | exact Z.at12) (by first | decide | (simp; done) | (simp; omega)) ?_ | refine Z.ZO.storePR rfl rfl hs rfl rfl (by kernel_rfl) (by first | (simp [Value.oneCell']; done) | (refine Z.all_one ?_; assumption)) (by first | exact SX.at0 | exact SX.at1 | exact SX.at2 | exact SX.at3 | exact SX.at4 | exact SX.at5 | exact Z.at6 | exact Z.at7 | exact Z.at8 | exact Z.at9 | exact Z.at10 | exact Z.at11 | exact Z.at12) (by first | decide | (simp; done) | (simp; omega)) ?_
        clear hs; intro ws hs
        simp only [Nat.zero_add, Nat.add_zero, Nat.reduceAdd, Int.reduceToNat, Nat.reduceMul, List.set_cons_zero, List.set_cons_succ, List.setIfInBounds_toArray] at hs
        try simp only [Z.putL, Nat.zero_add] at hs
        refine Z.lb 1 rfl ?_
        refine Z.lnil ?_
        refine Z.only [2, 3] rfl ?_
        refine Z.nthen ?_
        refine Z.ret ?_
        -- ret#1
        refine Z.out2 (by exact ⟨⟨_, rfl, Z.rvcA hs Try.isAgg40 (by first | ((repeat (first | exact List.mem_cons_self | refine List.mem_cons_of_mem _ ?_ | refine List.mem_append_right _ ?_)); done) | fail) (by exact Try.sizeOf40)⟩, rfl, trivial⟩) ?_
        exact ⟨_, rfl, _, rfl, B, _, co, rfl, hs.sel [0] (by decide)⟩
        )
theorem ac_Message (g : Nat) (m : AcV) (w : World) (hc : Cel w g m.cells) (hf : m.cfg) :
    Calls Try.prog 15 #[.pointer (some ⟨g, 0, none⟩)] w (SX.Ret fun v w' => if m.st = 3 then ∃ u, v = .tuple #[u, .int .i64 0] ∧ OwnPt (msgC m) (msgL m) u w w' else v = .tuple #[.agg #[.int .i64 0, .slice none 0 0], .int .i64 8] ∧ SX.St w [] w' []) := by
  have hs := SX.St.start w
  have hmax : m.max ≠ 0 := by have := hf.2.2.2.2; omega
  by_cases h3 : m.st = 3
  · simp only [if_pos h3]
    refine Z.enter Try.func15 rfl Try.ntmps15 rfl rfl ?_
    refine Z.seq ?_
    refine Z.region ?_
    refine Z.le rfl trivial ?_
    refine Z.ZO.alloc rfl rfl (by rfl) Try.zeroValue40 rfl hs ?_
    clear hs; intro g2 w2 hs
    refine Z.lb 1 rfl ?_
    refine Z.lnil ?_
    refine Z.only [0, 2] rfl ?_
    refine Z.nthen ?_
    refine Z.seq ?_
    refine Z.block ?_
    refine Z.seq ?_
    refine Z.region ?_
    refine Z.lb 1 rfl ?_
    refine Z.le rfl trivial ?_
    refine Z.ZO.call rfl rfl (by rfl) rfl rfl Try.call36 rfl (ac_none g m _ (hc.st (hs.sub (List.nil_sublist _))) hmax) ?_
    rintro v1_1 w1_1 ⟨rfl, hy⟩
    replace hs := hs.call hy
    clear hy
    try simp only [List.cons_append, List.nil_append, List.append_nil] at hs
    refine Z.lb 1 rfl ?_
    refine Z.lnil ?_
    refine Z.only [0, 2, 4] rfl ?_
    refine Z.nthen ?_
    refine Z.cond rfl (fun h => absurd h (by simp)) (fun hc1 => ?_)
    refine Z.seq ?_
    refine Z.region ?_
    refine Z.lb 1 rfl ?_
    refine Z.l rfl rfl (by rfl) (Z.keepS hs) (Z.Yd.nilc rfl rfl) ?_
    refine Z.l rfl rfl (by rfl) (Z.keepS hs) (Z.Yd.fieldA (m := 5) rfl (by kernel_rfl)) ?_
    refine Z.l rfl rfl (by rfl) (Z.keepS hs) (Z.Yd.load rfl Try.isAgg44 (fun _ => Z.cellO hc.1 (by simp) (hc.2 5 _ rfl))) ?_
    refine Z.lb 2 rfl ?_
    refine Z.lnil ?_
    refine Z.only [0, 2, 8] rfl ?_
    refine Z.nthen ?_
    refine Z.cond rfl (fun h => absurd h (by simp [h3])) (fun hc3 => ?_)
    refine Z.skip ?_
    refine Z.nblock ?_
    refine Z.nthen ?_
    refine Z.seq ?_
    refine Z.region ?_
    refine Z.lb 1 rfl ?_
    refine Z.le rfl trivial ?_
    refine Z.ZO.call rfl rfl (by rfl) rfl rfl Try.call37 rfl (ac_message g m _ (hc.st (hs.sub (List.nil_sublist _))) hf) ?_
    rintro v5_1 w5_1 ⟨u, rfl, B, cc, co, rfl, hy⟩
    replace hs := hs.call hy
    clear hy
    try simp only [List.cons_append, List.nil_append, List.append_nil] at hs
    refine Z.lb 2 rfl ?_
    refine Z.le rfl trivial ?_
    first | refine Z.ZO.storeA rfl rfl hs rfl rfl (by kernel_rfl) (by first | (simp [Value.oneCell']; done) | (refine Z.all_one ?_; assumption)) (by first | exact SX.at0 | exact SX.at1 | exact SX.at2 | exact SX.at3 | exact SX.at4 | exact SX.at5 | exact Z.at6 | exact Z.at7 | exact Z.at8 | exact Z.at9 | exact Z.at10 | exact Z.at11 | exact Z.at12) (by rfl) ?_ | refine Z.ZO.storeP rfl rfl hs rfl rfl (by kernel_rfl) (by first | (simp [Value.oneCell']; done) | (refine Z.all_one ?_; assumption)) (by first | exact SX.at0 | exact SX.at1 | exact SX.at2 | exact SX.at3 | exact SX.at4 | exact SX.at5 | exact Z.at6 | exact Z.at7 | exact Z.at8 | exact Z.at9 | exact Z.at10 | exact Z.at11 | exact Z.at12) (by first | decide | (simp; done) | (simp; omega)) ?_ | refine Z.ZO.storePR rfl rfl hs rfl rfl (by kernel_rfl) (by first | (simp [Value.oneCell']; done) | (refine Z.all_one ?_; assumption)) (by first | exact SX.at0 | exact SX.at1 | exact SX.at2 | exact SX.at3 | exact SX.at4 | exact SX.at5 | exact Z.at6 | exact Z.at7 | exact Z.at8 | exact Z.at9 | exact Z.at10 | exact Z.at11 | exact Z.at12) (by first | decide | (simp; done) | (simp; omega)) ?_
    clear hs; intro ws hs
    simp only [Nat.zero_add, Nat.add_zero, Nat.reduceAdd, Int.reduceToNat, Nat.reduceMul, List.set_cons_zero, List.set_cons_succ, List.setIfInBounds_toArray] at hs
    try simp only [Z.putL, Nat.zero_add] at hs
    refine Z.lb 1 rfl ?_
    refine Z.lnil ?_
    refine Z.only [2, 3] rfl ?_
    refine Z.nthen ?_
    refine Z.ret ?_
    -- ret#0
    refine Z.out2 (by exact ⟨⟨_, rfl, Z.rvcA hs Try.isAgg40 (by first | ((repeat (first | exact List.mem_cons_self | refine List.mem_cons_of_mem _ ?_ | refine List.mem_append_right _ ?_)); done) | fail) (by exact Try.sizeOf40)⟩, rfl, trivial⟩) ?_
    exact ⟨_, rfl, _, rfl, B, cc, co, rfl, hs.sel [0] (by decide)⟩
  · simp only [if_neg h3]
    refine Z.enter Try.func15 rfl Try.ntmps15 rfl rfl ?_
    refine Z.seq ?_
    refine Z.region ?_
    refine Z.le rfl trivial ?_
    refine Z.ZO.alloc rfl rfl (by rfl) Try.zeroValue40 rfl hs ?_
    clear hs; intro g2 w2 hs
    refine Z.lb 1 rfl ?_
    refine Z.lnil ?_
    refine Z.only [0, 2] rfl ?_
    refine Z.nthen ?_
    refine Z.seq ?_
    refine Z.block ?_
    refine Z.seq ?_
    refine Z.region ?_
    refine Z.lb 1 rfl ?_
    refine Z.le rfl trivial ?_
    refine Z.ZO.call rfl rfl (by rfl) rfl rfl Try.call36 rfl (ac_none g m _ (hc.st (hs.sub (List.nil_sublist _))) hmax) ?_
    rintro v1_1 w1_1 ⟨rfl, hy⟩
    replace hs := hs.call hy
    clear hy
    try simp only [List.cons_append, List.nil_append, List.append_nil] at hs
    refine Z.lb 1 rfl ?_
    refine Z.lnil ?_
    refine Z.only [0, 2, 4] rfl ?_
    refine Z.nthen ?_
    refine Z.cond rfl (fun h => absurd h (by simp)) (fun hc1 => ?_)
    refine Z.seq ?_
    refine Z.region ?_
    refine Z.lb 1 rfl ?_
    refine Z.l rfl rfl (by rfl) (Z.keepS hs) (Z.Yd.nilc rfl rfl) ?_
    refine Z.l rfl rfl (by rfl) (Z.keepS hs) (Z.Yd.fieldA (m := 5) rfl (by kernel_rfl)) ?_
    refine Z.l rfl rfl (by rfl) (Z.keepS hs) (Z.Yd.load rfl Try.isAgg44 (fun _ => Z.cellO hc.1 (by simp) (hc.2 5 _ rfl))) ?_
    refine Z.lb 2 rfl ?_
    refine Z.lnil ?_
    refine Z.only [0, 2, 8] rfl ?_
    refine Z.nthen ?_
    refine Z.cond rfl (fun hc3 => ?_) (fun h => absurd h (by simpa using h3))
    refine Z.seq ?_
    refine Z.region ?_
    refine Z.l rfl rfl (by rfl) (Z.keepS hs) (Z.Yd.buildL [(0, 1), (1, 1)] [.int .i64 0, .slice none 0 0] rfl rfl (by intro w; kernel_rfl)) ?_
    refine Z.le rfl trivial ?_
    first | refine Z.ZO.storeA rfl rfl hs rfl rfl (by kernel_rfl) (by first | (simp [Value.oneCell']; done) | (refine Z.all_one ?_; assumption)) (by first | exact SX.at0 | exact SX.at1 | exact SX.at2 | exact SX.at3 | exact SX.at4 | exact SX.at5 | exact Z.at6 | exact Z.at7 | exact Z.at8 | exact Z.at9 | exact Z.at10 | exact Z.at11 | exact Z.at12) (by rfl) ?_ | refine Z.ZO.storeP rfl rfl hs rfl rfl (by kernel_rfl) (by first | (simp [Value.oneCell']; done) | (refine Z.all_one ?_; assumption)) (by first | exact SX.at0 | exact SX.at1 | exact SX.at2 | exact SX.at3 | exact SX.at4 | exact SX.at5 | exact Z.at6 | exact Z.at7 | exact Z.at8 | exact Z.at9 | exact Z.at10 | exact Z.at11 | exact Z.at12) (by first | decide | (simp; done) | (simp; omega)) ?_ | refine Z.ZO.storePR rfl rfl hs rfl rfl (by kernel_rfl) (by first | (simp [Value.oneCell']; done) | (refine Z.all_one ?_; assumption)) (by first | exact SX.at0 | exact SX.at1 | exact SX.at2 | exact SX.at3 | exact SX.at4 | exact SX.at5 | exact Z.at6 | exact Z.at7 | exact Z.at8 | exact Z.at9 | exact Z.at10 | exact Z.at11 | exact Z.at12) (by first | decide | (simp; done) | (simp; omega)) ?_
    clear hs; intro ws hs
    simp only [Nat.zero_add, Nat.add_zero, Nat.reduceAdd, Int.reduceToNat, Nat.reduceMul, List.set_cons_zero, List.set_cons_succ, List.setIfInBounds_toArray] at hs
    try simp only [Z.putL, Nat.zero_add] at hs
    refine Z.lb 1 rfl ?_
    refine Z.lnil ?_
    refine Z.only [2, 3] rfl ?_
    refine Z.nthen ?_
    refine Z.ret ?_
    repeat (first | refine Z.rthen ?_ | refine Z.rblock ?_ | refine Z.rscope ?_)
    -- ret#0
    refine Z.out2 (by exact ⟨⟨_, rfl, Z.rvcA hs Try.isAgg40 (by first | ((repeat (first | exact List.mem_cons_self | refine List.mem_cons_of_mem _ ?_ | refine List.mem_append_right _ ?_)); done) | fail) (by exact Try.sizeOf40)⟩, rfl, trivial⟩) ?_
    exact ⟨_, rfl, rfl, hs.sub (List.nil_sublist _)⟩
theorem ac_eqb (A B : Option Addr) (n c m d : Nat) (l k : List Int) (w : World) (hx : Sl w A (ints .u8 l)) (hy : Sl w B (ints .u8 k)) (hl : l.length = n) (hk : k.length = m) (hn : n ≤ 9223372036854775807) :
    Calls Try.prog 40 #[.slice A n c, .slice B m d] w (SX.Ret fun v w' => v = .bool (decide (l = k)) ∧ SX.St w [] w' []) := by
  have hs := SX.St.start w
  refine Z.enter Try.func40 rfl Try.ntmps40 rfl rfl ?_
  refine Z.seq ?_
  refine Z.region ?_
  refine Z.lb 1 rfl ?_
  refine Z.lnil ?_
  refine Z.only [0, 1] rfl ?_
  refine Z.nthen ?_
  refine Z.seq ?_
  refine Z.seq ?_
  refine Z.region ?_
  refine Z.lb 1 rfl ?_
  refine Z.l rfl rfl (by rfl) (Z.keepS hs) (Z.Yd.lenS rfl Try.underlying38) ?_
  refine Z.lb 1 rfl ?_
  refine Z.l rfl rfl (by rfl) (Z.keepS hs) (Z.Yd.lenS rfl Try.underlying38) ?_
  refine Z.lb 1 rfl ?_
  refine Z.lnil ?_
  refine Z.only [0, 1, 10] rfl ?_
  refine Z.nthen ?_
  refine Z.cond rfl (fun hc1 => ?_) (fun hc1 => ?_)
  · first
      | (exfalso; simp at hc1 <;> omega)
      | (
        (try simp at hc1)
        refine Z.seq ?_
        refine Z.region ?_
        refine Z.lb 1 rfl ?_
        refine Z.lnil ?_
        refine Z.only [4] rfl ?_
        refine Z.nthen ?_
        refine Z.ret ?_
        repeat (first | refine Z.rthen ?_ | refine Z.rblock ?_ | refine Z.rscope ?_)
        -- ret#0
        refine Z.out1 (by exact ⟨rfl, trivial⟩) ?_
        refine ⟨_, rfl, ?_, hs.sub (List.nil_sublist _)⟩
        first
        | exact congrArg Value.bool (decide_eq_false (fun h => by rw [h, e2] at e1; simp_all)).symm
        | exact congrArg Value.bool (decide_eq_true ht).symm
        | exact congrArg Value.bool (decide_eq_false (fun h => by have hlk := congrArg List.length h; simp_all)).symm
        )
  · first
      | (exfalso; simp at hc1 <;> omega)
      | (
        (try simp at hc1)
        refine Z.skip ?_
        refine Z.nthen ?_
        refine Z.seq ?_
        refine Z.seq ?_
        refine Z.region ?_
        refine Z.lb 1 rfl ?_
        refine Z.l rfl rfl (by rfl) (Z.keepS hs) (Z.Yd.lenS rfl Try.underlying38) ?_
        refine Z.lb 1 rfl ?_
        refine Z.lnil ?_
        refine Z.only [0, 1, 12, 13] rfl ?_
        refine Z.nthen ?_
        refine Z.block ?_
        refine Z.loopk (ι := Nat) [0, 1, 12] rfl (fun i => [(13, [], .int .i64 (i : Int))]) (fun i wr => (i ≤ n ∧ n = m ∧ l.take i = k.take i) ∧ SX.St w [] wr []) (fun i => n - i) 0 (by refine ⟨?_, trivial⟩ <;> (first | rfl | (refine Z.lookv rfl ?_; simp; done) | (refine Z.lookv rfl ?_; simp; omega))) ⟨⟨by omega, by first | omega | simp_all, rfl⟩, hs⟩ ?_
        clear hs
        rintro i w4 ⟨⟨hi, hnm, ht⟩, hs⟩
        refine Z.only [0, 1, 12, 13] rfl ?_
        refine Z.seq ?_
        refine Z.region ?_
        refine Z.lb 1 rfl ?_
        refine Z.lnil ?_
        refine Z.only [0, 1, 12, 13, 14] rfl ?_
        refine Z.nthen ?_
        refine Z.seq ?_
        refine Z.cond rfl (fun hc4 => ?_) (fun hc4 => ?_)
        · first
            | (exfalso; simp at hc4 <;> omega)
            | (
              (try simp at hc4)
              obtain ⟨b, off, rfl, hb1, hx2⟩ := Z.Sl.some hx (by simp [ints]; omega)
              obtain ⟨b', off', rfl, hb2, hy2⟩ := Z.Sl.some hy (by simp [ints]; omega)
              have e1 : l[i]? = some (elt l (i : Int)) := by simp [elt, show i < l.length from by omega]
              have e2 : k[i]? = some (elt k (i : Int)) := by simp [elt, show i < k.length from by omega]
              refine Z.skip ?_
              refine Z.nthen ?_
              refine Z.seq ?_
              refine Z.block ?_
              refine Z.seq ?_
              refine Z.region ?_
              refine Z.lb 2 rfl ?_
              refine Z.lnil ?_
              refine Z.only [0, 1, 5, 12, 13] rfl ?_
              refine Z.nthen ?_
              refine Z.seq ?_
              refine Z.drawK (fun _ => true) mixed hs ?_
              clear hs; intro wd6 hs
              refine Z.tb [0, 1] (by kernel_rfl) rfl ⟨_, hs, by first | (simp; done) | exact fun e he => List.mem_append_right _ he⟩ rfl ?_
              refine Z.t 2 rfl rfl rfl (by rfl) (by kernel_rfl) ⟨_, hs, by first | (simp; done) | exact fun e he => List.mem_append_right _ he⟩ (Z.Yd.elem rfl rfl Try.underlying38 Try.sizeOf5 (fun hG => ⟨(by first | omega | (have hG' := Z.gh rfl hG; simp at hG'; omega)), (by first | omega | (have hG' := Z.gh rfl hG; simp at hG'; omega))⟩)) ?_
              refine Z.t 3 rfl rfl rfl (by rfl) (by kernel_rfl) ⟨_, hs, by first | (simp; done) | exact fun e he => List.mem_append_right _ he⟩ (Z.Yd.load rfl Try.isAgg5 (fun hG => Z.cellS hx2 rfl (by first | omega | (have hG' := Z.gh rfl hG; simp at hG'; omega)) (by first | omega | (have hG' := Z.gh rfl hG; simp at hG'; omega)))) ?_
              refine Z.tb [4, 5] (by kernel_rfl) rfl ⟨_, hs, by first | (simp; done) | exact fun e he => List.mem_append_right _ he⟩ rfl ?_
              refine Z.t 6 rfl rfl rfl (by rfl) (by kernel_rfl) ⟨_, hs, by first | (simp; done) | exact fun e he => List.mem_append_right _ he⟩ (Z.Yd.elem rfl rfl Try.underlying38 Try.sizeOf5 (fun hG => ⟨(by first | omega | (have hG' := Z.gh rfl hG; simp at hG'; omega)), (by first | omega | (have hG' := Z.gh rfl hG; simp at hG'; omega))⟩)) ?_
              refine Z.t 7 rfl rfl rfl (by rfl) (by kernel_rfl) ⟨_, hs, by first | (simp; done) | exact fun e he => List.mem_append_right _ he⟩ (Z.Yd.load rfl Try.isAgg5 (fun hG => Z.cellS hy2 rfl (by first | omega | (have hG' := Z.gh rfl hG; simp at hG'; omega)) (by first | omega | (have hG' := Z.gh rfl hG; simp at hG'; omega)))) ?_
              refine Z.tb [8] (by kernel_rfl) rfl ⟨_, hs, by first | (simp; done) | exact fun e he => List.mem_append_right _ he⟩ rfl ?_
              refine Z.td (by rfl) (by kernel_rfl) ?_
              refine Z.only [0, 1, 12, 13, 24] rfl ?_
              refine Z.nthen ?_
              refine Z.cond rfl (fun hc6 => ?_) (fun hc6 => ?_)
              · first
                  | (exfalso; simp at hc6 <;> omega)
                  | (
                    (try simp at hc6)
                    refine Z.seq ?_
                    refine Z.region ?_
                    refine Z.lb 1 rfl ?_
                    refine Z.lnil ?_
                    refine Z.only [4] rfl ?_
                    refine Z.nthen ?_
                    refine Z.ret ?_
                    repeat (first | refine Z.rthen ?_ | refine Z.rblock ?_ | refine Z.rscope ?_)
                    -- ret#1
                    refine Z.out1 (by exact ⟨rfl, trivial⟩) ?_
                    refine ⟨_, rfl, ?_, hs.sub (List.nil_sublist _)⟩
                    first
                    | exact congrArg Value.bool (decide_eq_false (fun h => by rw [h, e2] at e1; simp_all)).symm
                    | exact congrArg Value.bool (decide_eq_true ht).symm
                    | exact congrArg Value.bool (decide_eq_false (fun h => by have hlk := congrArg List.length h; simp_all)).symm
                    )
              · first
                  | (exfalso; simp at hc6 <;> omega)
                  | (
                    (try simp at hc6)
                    refine Z.skip ?_
                    refine Z.nblock ?_
                    refine Z.nthen ?_
                    refine Z.region ?_
                    refine Z.l rfl rfl (by rfl) (Z.keepS hs) (Z.Yd.add rfl rfl (fun hG => Z.wi64 (by first | omega | (have hG' := Z.gh rfl hG; simp at hG'; omega)))) ?_
                    refine Z.lb 1 rfl ?_
                    refine Z.lnil ?_
                    refine Z.only [0, 1, 12, 13] rfl ?_
                    refine Z.nthen ?_
                    refine Z.again (i + 1) (by refine ⟨?_, ?_, ?_, ?_, trivial⟩ <;> (first | rfl | (refine Z.lookv rfl ?_; simp; done) | (refine Z.lookv rfl ?_; simp; omega))) ⟨⟨by omega, hnm, ?_⟩, hs⟩ (by omega)
                    rw [← take_snoc e1, ← take_snoc e2, ht]
                    simp_all
                    )
              )
        · first
            | (exfalso; simp at hc4 <;> omega)
            | (
              (try simp at hc4)
              refine Z.exit ?_
              refine Z.xthen ?_
              refine Z.xthen ?_
              refine Z.xblock ?_
              refine Z.nthen ?_
              refine Z.seq ?_
              refine Z.region ?_
              obtain rfl : i = n := by omega
              rw [List.take_of_length_le (by omega), List.take_of_length_le (by omega)] at ht
              refine Z.l rfl rfl (by rfl) (Z.keepS hs) (Z.Yd.pure rfl) ?_
              refine Z.lnil ?_
              refine Z.only [4] rfl ?_
              refine Z.nthen ?_
              refine Z.ret ?_
              -- ret#2
              refine Z.out1 (by exact ⟨rfl, trivial⟩) ?_
              refine ⟨_, rfl, ?_, hs.sub (List.nil_sublist _)⟩
              first
              | exact congrArg Value.bool (decide_eq_false (fun h => by rw [h, e2] at e1; simp_all)).symm
              | exact congrArg Value.bool (decide_eq_true ht).symm
              | exact congrArg Value.bool (decide_eq_false (fun h => by have hlk := congrArg List.length h; simp_all)).symm
              )
        )
def resolveS (m : AcV) (lc : Int) (l : List Int) : Bool × Int × AcV := if lc = msgC m ∧ l = msgL m then (true, 0, { m with st := 4, due := -1 }) else (false, 0, failV m)
set_option maxHeartbeats 1000000 in
theorem ac_resolve1 (g T g2 T2 g3 T3 : Nat) (m : AcV) (lc : Int) (A : Option Addr) (n c : Nat) (l : List Int) (w : World) (hs : SX.St w (SX.idsOf [SX.Ent.blk g T m.cells.toArray, SX.Ent.blk g2 T2 #[.pointer (some ⟨g, 0, none⟩)], SX.Ent.blk g3 T3 #[.int .i64 lc, .slice A n c]]) w [SX.Ent.blk g T m.cells.toArray, SX.Ent.blk g2 T2 #[.pointer (some ⟨g, 0, none⟩)], SX.Ent.blk g3 T3 #[.int .i64 lc, .slice A n c]]) (hm : m.ok)
    (hx : Sx w (SX.idsOf [SX.Ent.blk g T m.cells.toArray, SX.Ent.blk g2 T2 #[.pointer (some ⟨g, 0, none⟩)], SX.Ent.blk g3 T3 #[.int .i64 lc, .slice A n c]]) A (ints .u8 l)) (hl : l.length = n) (hn : n ≤ 9223372036854775807) :
    Calls Try.prog 39 #[.pointer (some ⟨g2, 0, none⟩), .pointer (some ⟨g3, 0, none⟩)] w (SX.Ret fun v w' => v = .tuple #[.bool (resolveS m lc l).1, .int .i64 (resolveS m lc l).2.1] ∧ SX.St w (SX.idsOf [SX.Ent.blk g T m.cells.toArray, SX.Ent.blk g2 T2 #[.pointer (some ⟨g, 0, none⟩)], SX.Ent.blk g3 T3 #[.int .i64 lc, .slice A n c]]) w' [SX.Ent.blk g T (resolveS m lc l).2.2.cells.toArray, SX.Ent.blk g2 T2 #[.pointer (some ⟨g, 0, none⟩)], SX.Ent.blk g3 T3 #[.int .i64 lc, .slice A n c]]) := by
  generalize hM : SX.idsOf [SX.Ent.blk g T m.cells.toArray, SX.Ent.blk g2 T2 #[.pointer (some ⟨g, 0, none⟩)], SX.Ent.blk g3 T3 #[.int .i64 lc, .slice A n c]] = M at *
  have hml := msgL_len m
  refine Z.enter Try.func39 rfl Try.ntmps39 rfl rfl ?_
  refine Z.seq ?_
  refine Z.region ?_
  refine Z.lb 2 rfl ?_
  refine Z.lnil ?_
  refine Z.only [0, 1] rfl ?_
  refine Z.nthen ?_
  refine Z.seq ?_
  refine Z.region ?_
  refine Z.l rfl rfl (by rfl) (Z.keepS hs) (by first | exact Z.Yd.load rfl Try.isAgg25 (fun _ => Z.cellB (by first | ((repeat (first | exact List.mem_cons_self | refine List.mem_cons_of_mem _ ?_ | refine List.mem_append_right _ ?_)); done) | fail) rfl) | exact Z.Yd.load rfl Try.isAgg25 (fun _ => Z.cellO (by assumption) (by simp) (by assumption)) | fail "load 1.0") ?_
  refine Z.le rfl trivial ?_
  refine Z.ZO.call rfl rfl (by rfl) rfl rfl Try.call37 rfl (ac_message g m _ (hs.celOf (by first | ((repeat (first | exact List.mem_cons_self | refine List.mem_cons_of_mem _ ?_ | refine List.mem_append_right _ ?_)); done) | fail)) hm.cfg) ?_
  rintro v1_1 w1_1 ⟨u, rfl, B, cc, co, rfl, hy⟩
  replace hs := hs.call hy
  clear hy
  try simp only [List.cons_append, List.nil_append, List.append_nil] at hs
  refine Z.lb 3 rfl ?_
  refine Z.le rfl trivial ?_
  refine Z.ZO.alloc rfl rfl (by rfl) Try.zeroValue40 rfl hs ?_
  clear hs; intro g4 w4 hs
  refine Z.le rfl trivial ?_
  first | refine Z.ZO.storeA rfl rfl hs rfl rfl (by kernel_rfl) (by first | (simp [Value.oneCell']; done) | (refine Z.all_one ?_; assumption)) (by first | exact SX.at0 | exact SX.at1 | exact SX.at2 | exact SX.at3 | exact SX.at4 | exact SX.at5 | exact Z.at6 | exact Z.at7 | exact Z.at8 | exact Z.at9 | exact Z.at10 | exact Z.at11 | exact Z.at12) (by rfl) ?_ | refine Z.ZO.storeP rfl rfl hs rfl rfl (by kernel_rfl) (by first | (simp [Value.oneCell']; done) | (refine Z.all_one ?_; assumption)) (by first | exact SX.at0 | exact SX.at1 | exact SX.at2 | exact SX.at3 | exact SX.at4 | exact SX.at5 | exact Z.at6 | exact Z.at7 | exact Z.at8 | exact Z.at9 | exact Z.at10 | exact Z.at11 | exact Z.at12) (by first | decide | (simp; done) | (simp; omega)) ?_ | refine Z.ZO.storePR rfl rfl hs rfl rfl (by kernel_rfl) (by first | (simp [Value.oneCell']; done) | (refine Z.all_one ?_; assumption)) (by first | exact SX.at0 | exact SX.at1 | exact SX.at2 | exact SX.at3 | exact SX.at4 | exact SX.at5 | exact Z.at6 | exact Z.at7 | exact Z.at8 | exact Z.at9 | exact Z.at10 | exact Z.at11 | exact Z.at12) (by first | decide | (simp; done) | (simp; omega)) ?_
  clear hs; intro ws hs
  simp only [Nat.zero_add, Nat.add_zero, Nat.reduceAdd, Int.reduceToNat, Nat.reduceMul, List.set_cons_zero, List.set_cons_succ, List.setIfInBounds_toArray] at hs
  try simp only [Z.putL, Nat.zero_add] at hs
  refine Z.lb 1 rfl ?_
  refine Z.lnil ?_
  refine Z.only [0, 1, 4] rfl ?_
  refine Z.nthen ?_
  refine Z.seq ?_
  refine Z.seq ?_
  refine Z.region ?_
  refine Z.l rfl rfl (by rfl) (Z.keepS hs) (Z.Yd.fieldA (m := 0) rfl (by kernel_rfl)) ?_
  refine Z.l rfl rfl (by rfl) (Z.keepS hs) (by first | exact Z.Yd.load rfl Try.isAgg3 (fun _ => Z.cellB (by first | ((repeat (first | exact List.mem_cons_self | refine List.mem_cons_of_mem _ ?_ | refine List.mem_append_right _ ?_)); done) | fail) rfl) | exact Z.Yd.load rfl Try.isAgg3 (fun _ => Z.cellO (by assumption) (by simp) (by assumption)) | fail "load 2.1") ?_
  refine Z.l rfl rfl (by rfl) (Z.keepS hs) (Z.Yd.fieldA (m := 0) rfl (by kernel_rfl)) ?_
  refine Z.l rfl rfl (by rfl) (Z.keepS hs) (by first | exact Z.Yd.load rfl Try.isAgg3 (fun _ => Z.cellB (by first | ((repeat (first | exact List.mem_cons_self | refine List.mem_cons_of_mem _ ?_ | refine List.mem_append_right _ ?_)); done) | fail) rfl) | exact Z.Yd.load rfl Try.isAgg3 (fun _ => Z.cellO (by assumption) (by simp) (by assumption)) | fail "load 2.3") ?_
  refine Z.lb 2 rfl ?_
  refine Z.split (s := 16) rfl (fun hsp16 => ?_) (fun hsp16 => ?_)
  · first
      | (exfalso; simp at hsp16 <;> omega)
      | (
        refine Z.yes (s := 16) (b := true) rfl hsp16 rfl ?_
        (try simp at hsp16)
        refine Z.ls rfl rfl rfl (by rfl) ?_
        refine Z.ls rfl rfl rfl (by rfl) ?_
        refine Z.ls rfl rfl rfl (by rfl) ?_
        refine Z.ls rfl rfl rfl (by rfl) ?_
        refine Z.ls rfl rfl rfl (by rfl) ?_
        refine Z.ls rfl rfl rfl (by rfl) ?_
        refine Z.l rfl rfl (by rfl) (Z.keepS hs) (Z.Yd.pickT rfl rfl) ?_
        refine Z.lnil ?_
        refine Z.only [0, 23] rfl ?_
        refine Z.nthen ?_
        refine Z.cond rfl (fun hc2 => ?_) (fun hc2 => ?_)
        · first
            | (exfalso; simp at hc2 <;> omega)
            | (
              (try simp at hc2)
              have e : resolveS m lc l = (false, 0, failV m) := if_neg (by first | exact fun h => absurd h.1.symm (by assumption) | exact fun h => absurd h.2.symm (by assumption))
              rw [e]
              refine Z.seq ?_
              refine Z.region ?_
              replace hs := hs.sel [2, 3, 4] (by decide)
              refine Z.l rfl rfl (by rfl) (Z.keepS hs) (by first | exact Z.Yd.load rfl Try.isAgg25 (fun _ => Z.cellB (by first | ((repeat (first | exact List.mem_cons_self | refine List.mem_cons_of_mem _ ?_ | refine List.mem_append_right _ ?_)); done) | fail) rfl) | exact Z.Yd.load rfl Try.isAgg25 (fun _ => Z.cellO (by assumption) (by simp) (by assumption)) | fail "load 3.0") ?_
              refine Z.le rfl trivial ?_
              refine Z.ZO.call rfl rfl (by rfl) rfl rfl Try.call35 rfl (ac_fail g T m _ (hs.lend (L1 := [_])) hm) ?_
              rintro v3_1 w3_1 ⟨rfl, hz⟩
              replace hs := hs.regain (L1 := [_]) hz
              refine Z.lnil ?_
              refine Z.only [] rfl ?_
              refine Z.nthen ?_
              refine Z.seq ?_
              refine Z.region ?_
              refine Z.lb 2 rfl ?_
              refine Z.lnil ?_
              refine Z.only [2, 3] rfl ?_
              refine Z.nthen ?_
              refine Z.ret ?_
              repeat (first | refine Z.rthen ?_ | refine Z.rblock ?_ | refine Z.rscope ?_)
              -- ret#0
              refine Z.out2 (by exact ⟨rfl, rfl, trivial⟩) ?_
              exact ⟨_, rfl, rfl, hs⟩
              )
        · first
            | (exfalso; simp at hc2 <;> omega)
            | (
              (try simp at hc2)
              have e : resolveS m lc l = (true, 0, { m with st := 4, due := -1 }) := if_pos (by simp_all)
              rw [e]
              refine Z.skip ?_
              refine Z.nthen ?_
              refine Z.seq ?_
              refine Z.region ?_
              replace hs := hs.sel [2, 3, 4] (by decide)
              refine Z.l rfl rfl (by rfl) (Z.keepS hs) (by first | exact Z.Yd.load rfl Try.isAgg25 (fun _ => Z.cellB (by first | ((repeat (first | exact List.mem_cons_self | refine List.mem_cons_of_mem _ ?_ | refine List.mem_append_right _ ?_)); done) | fail) rfl) | exact Z.Yd.load rfl Try.isAgg25 (fun _ => Z.cellO (by assumption) (by simp) (by assumption)) | fail "load 5.0") ?_
              refine Z.le rfl trivial ?_
              refine Z.ZO.call rfl rfl (by rfl) rfl rfl Try.call31 rfl (ac_enter g T m 4 (-1) _ (hs.lend (L1 := [_]))) ?_
              rintro v5_1 w5_1 ⟨rfl, hz⟩
              replace hs := hs.regain (L1 := [_]) hz
              refine Z.lnil ?_
              refine Z.only [] rfl ?_
              refine Z.nthen ?_
              refine Z.seq ?_
              refine Z.region ?_
              refine Z.lb 2 rfl ?_
              refine Z.lnil ?_
              refine Z.only [2, 3] rfl ?_
              refine Z.nthen ?_
              refine Z.ret ?_
              -- ret#1
              refine Z.out2 (by exact ⟨rfl, rfl, trivial⟩) ?_
              exact ⟨_, rfl, rfl, hs⟩
              )
        )
  · first
      | (exfalso; simp at hsp16 <;> omega)
      | (
        refine Z.yes (s := 16) (b := false) rfl hsp16 rfl ?_
        (try simp at hsp16)
        refine Z.l rfl rfl (by rfl) (Z.keepS hs) (Z.Yd.fieldA (m := 1) rfl (by kernel_rfl)) ?_
        refine Z.l rfl rfl (by rfl) (Z.keepS hs) (by first | exact Z.Yd.load rfl Try.isAgg38 (fun _ => Z.cellB (by first | ((repeat (first | exact List.mem_cons_self | refine List.mem_cons_of_mem _ ?_ | refine List.mem_append_right _ ?_)); done) | fail) rfl) | exact Z.Yd.load rfl Try.isAgg38 (fun _ => Z.cellO (by assumption) (by simp) (by assumption)) | fail "load 2.7") ?_
        refine Z.l rfl rfl (by rfl) (Z.keepS hs) (Z.Yd.fieldA (m := 1) rfl (by kernel_rfl)) ?_
        refine Z.l rfl rfl (by rfl) (Z.keepS hs) (by first | exact Z.Yd.load rfl Try.isAgg38 (fun _ => Z.cellB (by first | ((repeat (first | exact List.mem_cons_self | refine List.mem_cons_of_mem _ ?_ | refine List.mem_append_right _ ?_)); done) | fail) rfl) | exact Z.Yd.load rfl Try.isAgg38 (fun _ => Z.cellO (by assumption) (by simp) (by assumption)) | fail "load 2.9") ?_
        refine Z.yes (s := 16) (b := false) rfl rfl rfl ?_
        refine Z.le rfl (by exact ⟨rfl, trivial⟩) ?_
        refine Z.ZO.call rfl rfl (by rfl) rfl rfl Try.call40 rfl (ac_eqb B A _ cc n c (msgL m) l _ (hs.slm (by first | ((repeat (first | exact List.mem_cons_self | refine List.mem_cons_of_mem _ ?_ | refine List.mem_append_right _ ?_)); done) | fail)) (hx.st hs) rfl hl (by omega)) ?_
        rintro v2_10 w2_10 ⟨rfl, hy⟩
        replace hs := hs.call hy
        clear hy
        try simp only [List.cons_append, List.nil_append, List.append_nil] at hs
        refine Z.lb 1 rfl ?_
        refine Z.yes (s := 16) (b := false) rfl rfl rfl ?_
        refine Z.l rfl rfl (by rfl) (Z.keepS hs) (Z.Yd.pickF rfl rfl) ?_
        refine Z.lnil ?_
        refine Z.only [0, 23] rfl ?_
        refine Z.nthen ?_
        refine Z.cond rfl (fun hc2 => ?_) (fun hc2 => ?_)
        · first
            | (exfalso; simp at hc2 <;> omega)
            | (
              (try simp at hc2)
              have e : resolveS m lc l = (false, 0, failV m) := if_neg (by first | exact fun h => absurd h.1.symm (by assumption) | exact fun h => absurd h.2.symm (by assumption))
              rw [e]
              refine Z.seq ?_
              refine Z.region ?_
              replace hs := hs.sel [2, 3, 4] (by decide)
              refine Z.l rfl rfl (by rfl) (Z.keepS hs) (by first | exact Z.Yd.load rfl Try.isAgg25 (fun _ => Z.cellB (by first | ((repeat (first | exact List.mem_cons_self | refine List.mem_cons_of_mem _ ?_ | refine List.mem_append_right _ ?_)); done) | fail) rfl) | exact Z.Yd.load rfl Try.isAgg25 (fun _ => Z.cellO (by assumption) (by simp) (by assumption)) | fail "load 3.0") ?_
              refine Z.le rfl trivial ?_
              refine Z.ZO.call rfl rfl (by rfl) rfl rfl Try.call35 rfl (ac_fail g T m _ (hs.lend (L1 := [_])) hm) ?_
              rintro v3_1 w3_1 ⟨rfl, hz⟩
              replace hs := hs.regain (L1 := [_]) hz
              refine Z.lnil ?_
              refine Z.only [] rfl ?_
              refine Z.nthen ?_
              refine Z.seq ?_
              refine Z.region ?_
              refine Z.lb 2 rfl ?_
              refine Z.lnil ?_
              refine Z.only [2, 3] rfl ?_
              refine Z.nthen ?_
              refine Z.ret ?_
              repeat (first | refine Z.rthen ?_ | refine Z.rblock ?_ | refine Z.rscope ?_)
              -- ret#2
              refine Z.out2 (by exact ⟨rfl, rfl, trivial⟩) ?_
              exact ⟨_, rfl, rfl, hs⟩
              )
        · first
            | (exfalso; simp at hc2 <;> omega)
            | (
              (try simp at hc2)
              have e : resolveS m lc l = (true, 0, { m with st := 4, due := -1 }) := if_pos (by simp_all)
              rw [e]
              refine Z.skip ?_
              refine Z.nthen ?_
              refine Z.seq ?_
              refine Z.region ?_
              replace hs := hs.sel [2, 3, 4] (by decide)
              refine Z.l rfl rfl (by rfl) (Z.keepS hs) (by first | exact Z.Yd.load rfl Try.isAgg25 (fun _ => Z.cellB (by first | ((repeat (first | exact List.mem_cons_self | refine List.mem_cons_of_mem _ ?_ | refine List.mem_append_right _ ?_)); done) | fail) rfl) | exact Z.Yd.load rfl Try.isAgg25 (fun _ => Z.cellO (by assumption) (by simp) (by assumption)) | fail "load 5.0") ?_
              refine Z.le rfl trivial ?_
              refine Z.ZO.call rfl rfl (by rfl) rfl rfl Try.call31 rfl (ac_enter g T m 4 (-1) _ (hs.lend (L1 := [_]))) ?_
              rintro v5_1 w5_1 ⟨rfl, hz⟩
              replace hs := hs.regain (L1 := [_]) hz
              refine Z.lnil ?_
              refine Z.only [] rfl ?_
              refine Z.nthen ?_
              refine Z.seq ?_
              refine Z.region ?_
              refine Z.lb 2 rfl ?_
              refine Z.lnil ?_
              refine Z.only [2, 3] rfl ?_
              refine Z.nthen ?_
              refine Z.ret ?_
              -- ret#3
              refine Z.out2 (by exact ⟨rfl, rfl, trivial⟩) ?_
              exact ⟨_, rfl, rfl, hs⟩
              )
        )
end Go.Proofs.Ytjgfooakcljddaa

/- Random access of a handset: Resolve, what can be seen, Copy, New. -/
namespace Go.Proofs.Ytjgfooakcljddaa
open Go.RowKit
set_option linter.unusedSimpArgs false
set_option linter.unusedVariables false
--newlaws

theorem ac_resolve (g T : Nat) (m : AcV) (t lc : Int) (A : Option Addr) (n c : Nat) (l : List Int) (w : World) (hs : SX.St w (SX.idsOf [SX.Ent.blk g T m.cells.toArray]) w [SX.Ent.blk g T m.cells.toArray]) (hm : m.ok)
    (hx : Sx w (SX.idsOf [SX.Ent.blk g T m.cells.toArray]) A (ints .u8 l)) (hl : l.length = n) (hn : n ≤ 9223372036854775807) (hb : Byts l) :
    Calls Try.prog 16 #[.pointer (some ⟨g, 0, none⟩), .int .i64 t, .agg #[.int .i64 lc, .slice A n c]] w (SX.Ret fun v w' => v = .tuple #[.bool (resolveV m t lc l).2.1, .int .i64 (resolveV m t lc l).2.2] ∧ SX.St w (SX.idsOf [SX.Ent.blk g T m.cells.toArray]) w' [SX.Ent.blk g T (resolveV m t lc l).1.cells.toArray]) := by
  generalize hM : SX.idsOf [SX.Ent.blk g T m.cells.toArray] = M at *
  obtain ⟨X, hX⟩ : ∃ X : Value × Int × AcV, X = if true = true ∧ okT t then (if idE lc l = 0 then (if (tickV m t).st ∈ [3] then (.bool (resolveS (tickV m t) lc l).1, (resolveS (tickV m t) lc l).2.1, (resolveS (tickV m t) lc l).2.2) else (.bool false, 8, tickV m t)) else (.bool false, idE lc l, m)) else (.bool false, 2, m) := ⟨_, rfl⟩
  have hE : X.1 = .bool (resolveV m t lc l).2.1 ∧ X.2.1 = (resolveV m t lc l).2.2 ∧ X.2.2 = (resolveV m t lc l).1 := by
    rw [hX]
    unfold resolveV resolveS
    by_cases h1 : okT t
    · rw [if_pos h1, if_pos ⟨rfl, h1⟩]
      by_cases h2 : idE lc l = 0
      · rw [if_pos h2, if_pos h2]
        by_cases h3 : (tickV m t).st = 3
        · rw [if_pos h3, if_pos (show (tickV m t).st ∈ [3] by rw [h3]; decide)]
          split <;> exact ⟨rfl, rfl, rfl⟩
        · rw [if_neg h3, if_neg (show ¬ (tickV m t).st ∈ [3] by simpa using h3)]
          exact ⟨rfl, rfl, rfl⟩
      · rw [if_neg h2, if_neg h2]
        exact ⟨rfl, rfl, rfl⟩
    · rw [if_neg h1, if_neg (fun h => h1 h.2)]
      exact ⟨rfl, rfl, rfl⟩
  refine Z.enter Try.func16 rfl Try.ntmps16 rfl rfl ?_
  refine Z.seq ?_
  refine Z.region ?_
  refine Z.le rfl trivial ?_
  refine Z.ZO.box rfl rfl (by rfl) rfl rfl hs ?_
  clear hs; intro g3 w3 hs
  refine Z.le rfl trivial ?_
  refine Z.ZO.box rfl rfl (by rfl) rfl rfl hs ?_
  clear hs; intro g5 w5 hs
  refine Z.lb 2 rfl ?_
  refine Z.lnil ?_
  refine Z.only [1, 3, 5] rfl ?_
  refine Z.nthen ?_
  refine Z.seq ?_
  refine Z.region ?_
  refine Z.l rfl rfl (by rfl) (Z.keepS hs) (by first | exact Z.Yd.loadA _ rfl Try.isAgg40 (fun _ => Z.cellsB (by first | ((repeat (first | exact List.mem_cons_self | refine List.mem_cons_of_mem _ ?_ | refine List.mem_append_right _ ?_)); done) | fail)) (by exact Try.sizeOf40) | fail "load 1.0") ?_
  refine Z.le rfl trivial ?_
  refine Z.ZO.call rfl rfl (by rfl) rfl rfl Try.call38 rfl (decid_any lc A n c l _ ((hx.st hs).sx) hl hn hb) ?_
  rintro v1_1 w1_1 ⟨rfl, hy⟩
  replace hs := hs.call hy
  clear hy
  try simp only [List.cons_append, List.nil_append, List.append_nil] at hs
  refine Z.lb 5 rfl ?_
  refine Z.lnil ?_
  refine Z.only [1, 3, 5, 9] rfl ?_
  refine Z.nthen ?_
  refine Z.seq ?_
  refine Z.region ?_
  refine Z.l rfl rfl (by rfl) (Z.keepS hs) (by first | exact Z.Yd.load rfl Try.isAgg25 (fun _ => Z.cellB (by first | ((repeat (first | exact List.mem_cons_self | refine List.mem_cons_of_mem _ ?_ | refine List.mem_append_right _ ?_)); done) | fail) rfl) | exact Z.Yd.load rfl Try.isAgg25 (fun _ => Z.cellO (by assumption) (by simp) (by assumption)) | fail "load 2.0") ?_
  refine Z.lb 3 rfl ?_
  refine Z.le rfl trivial ?_
  refine Z.ZO.litL (T' := 44) [(0, 1)] [.int .i64 0] rfl rfl (by rfl) rfl rfl (by intro W; kernel_rfl) hs ?_
  clear hs; intro g19 w19 hs
  replace hs : SX.St w M _ ([SX.Ent.blk g T m.cells.toArray, SX.Ent.blk g3 _ _, SX.Ent.blk g5 _ _] ++ [_]) := hs.sel [3, 2, 1, 0] (by decide)
  refine Z.le rfl trivial ?_
  refine Z.ZO.call rfl rfl (by rfl) rfl rfl Try.call29 rfl (ac_timedB g T [SX.Ent.blk g3 _ _, SX.Ent.blk g5 _ _] m t true (idE lc l) 39 _ _ _ _ [3] _ hs.lend hm (by have h0 := Z.blk_lentj hs (j := 0) rfl; exact h0) rfl (by decide) Try.call39 _ _ _ (fun _ ht _ _ W hW ↦ ac_resolve1 g T g3 _ g5 _ (tickV m t) lc A n c l W hW.all (hm.tick ht) ((hx.lent hs).all hW) hl hn) X.1 X.2.1 X.2.2 hX) ?_
  rintro v2_5 w2_5 ⟨rfl, hz⟩
  replace hs := hs.regain hz
  rw [hE.2.2] at hs
  rw [hE.1, hE.2.1]
  refine Z.lb 4 rfl ?_
  refine Z.lnil ?_
  refine Z.only [6, 7] rfl ?_
  refine Z.nthen ?_
  refine Z.ret ?_
  -- ret#0
  refine Z.out2 (by exact ⟨rfl, rfl, trivial⟩) ?_
  exact ⟨_, rfl, rfl, hs.sel [0] (by decide)⟩
theorem ac_State (g : Nat) (m : AcV) (w : World) (hc : Cel w g m.cells) (hf : m.cfg) : Calls Try.prog 17 #[.pointer (some ⟨g, 0, none⟩)] w (SX.Ret fun v w' => v = .int .i64 m.st ∧ SX.St w [] w' []) := by
  have hs := SX.St.start w
  have hmax : m.max ≠ 0 := by have := hf.2.2.2.2; omega
  refine Z.enter Try.func17 rfl Try.ntmps17 rfl rfl ?_
  refine Z.seq ?_
  refine Z.region ?_
  refine Z.lb 1 rfl ?_
  refine Z.lnil ?_
  refine Z.only [0] rfl ?_
  refine Z.nthen ?_
  refine Z.seq ?_
  refine Z.seq ?_
  refine Z.region ?_
  refine Z.lb 1 rfl ?_
  refine Z.le rfl trivial ?_
  refine Z.ZO.call rfl rfl (by rfl) rfl rfl Try.call36 rfl (ac_none g m _ hc hmax) ?_
  rintro v1_1 w1_1 ⟨rfl, hy⟩
  replace hs := hs.call hy
  clear hy
  try simp only [List.cons_append, List.nil_append, List.append_nil] at hs
  refine Z.lnil ?_
  refine Z.only [0, 4] rfl ?_
  refine Z.nthen ?_
  refine Z.cond rfl (fun h => absurd h (by simp)) (fun hc1 => ?_)
  refine Z.skip ?_
  refine Z.nthen ?_
  refine Z.seq ?_
  refine Z.region ?_
  refine Z.lb 1 rfl ?_
  refine Z.l rfl rfl (by rfl) (Z.keepS hs) (Z.Yd.nilc rfl rfl) ?_
  refine Z.l rfl rfl (by rfl) (Z.keepS hs) (Z.Yd.fieldA (m := 5) rfl (by kernel_rfl)) ?_
  refine Z.l rfl rfl (by rfl) (Z.keepS hs) (Z.Yd.load rfl Try.isAgg44 (fun _ => Z.cellO hc.1 (by simp) (hc.2 5 _ rfl))) ?_
  refine Z.lb 1 rfl ?_
  refine Z.lnil ?_
  refine Z.only [2] rfl ?_
  refine Z.nthen ?_
  refine Z.ret ?_
  -- ret#0
  refine Z.out1 (by exact ⟨rfl, trivial⟩) ?_
  first | exact ⟨_, rfl, rfl, hs⟩ | exact ⟨_, rfl, rfl, hs.sub (List.nil_sublist _)⟩
theorem ac_Due (g : Nat) (m : AcV) (w : World) (hc : Cel w g m.cells) (hf : m.cfg) : Calls Try.prog 18 #[.pointer (some ⟨g, 0, none⟩)] w (SX.Ret fun v w' => v = .int .i64 m.due ∧ SX.St w [] w' []) := by
  have hs := SX.St.start w
  have hmax : m.max ≠ 0 := by have := hf.2.2.2.2; omega
  refine Z.enter Try.func18 rfl Try.ntmps18 rfl rfl ?_
  refine Z.seq ?_
  refine Z.region ?_
  refine Z.lb 1 rfl ?_
  refine Z.lnil ?_
  refine Z.only [0] rfl ?_
  refine Z.nthen ?_
  refine Z.seq ?_
  refine Z.seq ?_
  refine Z.region ?_
  refine Z.lb 1 rfl ?_
  refine Z.le rfl trivial ?_
  refine Z.ZO.call rfl rfl (by rfl) rfl rfl Try.call36 rfl (ac_none g m _ hc hmax) ?_
  rintro v1_1 w1_1 ⟨rfl, hy⟩
  replace hs := hs.call hy
  clear hy
  try simp only [List.cons_append, List.nil_append, List.append_nil] at hs
  refine Z.lnil ?_
  refine Z.only [0, 4] rfl ?_
  refine Z.nthen ?_
  refine Z.cond rfl (fun h => absurd h (by simp)) (fun hc1 => ?_)
  refine Z.skip ?_
  refine Z.nthen ?_
  refine Z.seq ?_
  refine Z.region ?_
  refine Z.lb 1 rfl ?_
  refine Z.l rfl rfl (by rfl) (Z.keepS hs) (Z.Yd.nilc rfl rfl) ?_
  refine Z.l rfl rfl (by rfl) (Z.keepS hs) (Z.Yd.fieldA (m := 7) rfl (by kernel_rfl)) ?_
  refine Z.l rfl rfl (by rfl) (Z.keepS hs) (Z.Yd.load rfl Try.isAgg3 (fun _ => Z.cellO hc.1 (by simp) (hc.2 7 _ rfl))) ?_
  refine Z.lb 1 rfl ?_
  refine Z.lnil ?_
  refine Z.only [2] rfl ?_
  refine Z.nthen ?_
  refine Z.ret ?_
  -- ret#0
  refine Z.out1 (by exact ⟨rfl, trivial⟩) ?_
  first | exact ⟨_, rfl, rfl, hs⟩ | exact ⟨_, rfl, rfl, hs.sub (List.nil_sublist _)⟩
theorem ac_Attempts (g : Nat) (m : AcV) (w : World) (hc : Cel w g m.cells) (hf : m.cfg) : Calls Try.prog 23 #[.pointer (some ⟨g, 0, none⟩)] w (SX.Ret fun v w' => v = .int .i64 m.att ∧ SX.St w [] w' []) := by
  have hs := SX.St.start w
  have hmax : m.max ≠ 0 := by have := hf.2.2.2.2; omega
  refine Z.enter Try.func23 rfl Try.ntmps23 rfl rfl ?_
  refine Z.seq ?_
  refine Z.region ?_
  refine Z.lb 1 rfl ?_
  refine Z.lnil ?_
  refine Z.only [0] rfl ?_
  refine Z.nthen ?_
  refine Z.seq ?_
  refine Z.seq ?_
  refine Z.region ?_
  refine Z.lb 1 rfl ?_
  refine Z.le rfl trivial ?_
  refine Z.ZO.call rfl rfl (by rfl) rfl rfl Try.call36 rfl (ac_none g m _ hc hmax) ?_
  rintro v1_1 w1_1 ⟨rfl, hy⟩
  replace hs := hs.call hy
  clear hy
  try simp only [List.cons_append, List.nil_append, List.append_nil] at hs
  refine Z.lnil ?_
  refine Z.only [0, 4] rfl ?_
  refine Z.nthen ?_
  refine Z.cond rfl (fun h => absurd h (by simp)) (fun hc1 => ?_)
  refine Z.skip ?_
  refine Z.nthen ?_
  refine Z.seq ?_
  refine Z.region ?_
  refine Z.lb 1 rfl ?_
  refine Z.l rfl rfl (by rfl) (Z.keepS hs) (Z.Yd.nilc rfl rfl) ?_
  refine Z.l rfl rfl (by rfl) (Z.keepS hs) (Z.Yd.fieldA (m := 10) rfl (by kernel_rfl)) ?_
  refine Z.l rfl rfl (by rfl) (Z.keepS hs) (Z.Yd.load rfl Try.isAgg3 (fun _ => Z.cellO hc.1 (by simp) (hc.2 10 _ rfl))) ?_
  refine Z.lb 1 rfl ?_
  refine Z.lnil ?_
  refine Z.only [2] rfl ?_
  refine Z.nthen ?_
  refine Z.ret ?_
  -- ret#0
  refine Z.out1 (by exact ⟨rfl, trivial⟩) ?_
  first | exact ⟨_, rfl, rfl, hs⟩ | exact ⟨_, rfl, rfl, hs.sub (List.nil_sublist _)⟩
theorem ac_RNTI (g : Nat) (m : AcV) (w : World) (hc : Cel w g m.cells) (hf : m.cfg) : Calls Try.prog 14 #[.pointer (some ⟨g, 0, none⟩)] w (SX.Ret fun v w' => v = .int .i64 (useV m) ∧ SX.St w [] w' []) := by
  have hs := SX.St.start w
  have hmax : m.max ≠ 0 := by have := hf.2.2.2.2; omega
  have hr := hf.2.1
  refine Z.enter Try.func14 rfl Try.ntmps14 rfl rfl ?_
  refine Z.seq ?_
  refine Z.region ?_
  refine Z.lb 1 rfl ?_
  refine Z.lnil ?_
  refine Z.only [0] rfl ?_
  refine Z.nthen ?_
  refine Z.seq ?_
  refine Z.block ?_
  refine Z.seq ?_
  refine Z.region ?_
  refine Z.lb 1 rfl ?_
  refine Z.le rfl trivial ?_
  refine Z.ZO.call rfl rfl (by rfl) rfl rfl Try.call36 rfl (ac_none g m _ hc hmax) ?_
  rintro v1_1 w1_1 ⟨rfl, hy⟩
  replace hs := hs.call hy
  clear hy
  try simp only [List.cons_append, List.nil_append, List.append_nil] at hs
  refine Z.lb 1 rfl ?_
  refine Z.yes (s := 6) (b := false) rfl (rfl) rfl ?_
  refine Z.lb 1 rfl ?_
  refine Z.l rfl rfl (by rfl) (Z.keepS hs) (Z.Yd.nilc rfl rfl) ?_
  refine Z.l rfl rfl (by rfl) (Z.keepS hs) (Z.Yd.fieldA (m := 5) rfl (by kernel_rfl)) ?_
  refine Z.l rfl rfl (by rfl) (Z.keepS hs) (Z.Yd.load rfl Try.isAgg44 (fun _ => Z.cellO hc.1 (by simp) (hc.2 5 _ rfl))) ?_
  refine Z.lb 1 rfl ?_
  refine Z.yes (s := 6) (b := false) rfl rfl rfl ?_
  refine Z.l rfl rfl (by rfl) (Z.keepS hs) (Z.Yd.pickF rfl rfl) ?_
  refine Z.lb 1 rfl ?_
  refine Z.lnil ?_
  refine Z.only [0, 3] rfl ?_
  refine Z.nthen ?_
  refine Z.cond rfl (fun hc1 => ?_) (fun hc1 => ?_)
  · first
      | (exfalso; simp at hc1 <;> omega)
      | (
        (try simp at hc1)
        have e : useV m = 0 := if_neg (by assumption)
        rw [e]
        refine Z.seq ?_
        refine Z.region ?_
        refine Z.lb 1 rfl ?_
        refine Z.lnil ?_
        refine Z.only [2] rfl ?_
        refine Z.nthen ?_
        refine Z.ret ?_
        repeat (first | refine Z.rthen ?_ | refine Z.rblock ?_ | refine Z.rscope ?_)
        -- ret#0
        refine Z.out1 (by exact ⟨rfl, trivial⟩) ?_
        first | exact ⟨_, rfl, rfl, hs⟩ | exact ⟨_, rfl, rfl, hs.sub (List.nil_sublist _)⟩
        )
  · first
      | (exfalso; simp at hc1 <;> omega)
      | (
        (try simp at hc1)
        refine Z.seq ?_
        refine Z.region ?_
        refine Z.lb 1 rfl ?_
        refine Z.l rfl rfl (by rfl) (Z.keepS hs) (Z.Yd.nilc rfl rfl) ?_
        refine Z.l rfl rfl (by rfl) (Z.keepS hs) (Z.Yd.fieldA (m := 0) rfl (by kernel_rfl)) ?_
        refine Z.l rfl rfl (by rfl) (Z.keepS hs) (Z.Yd.fieldA (m := 1) rfl (by kernel_rfl)) ?_
        refine Z.l rfl rfl (by rfl) (Z.keepS hs) (Z.Yd.load rfl Try.isAgg3 (fun _ => Z.cellO hc.1 (by simp) (hc.2 1 _ rfl))) ?_
        refine Z.lb 2 rfl ?_
        refine Z.lnil ?_
        refine Z.only [0, 13] rfl ?_
        refine Z.nthen ?_
        refine Z.cond rfl (fun hc3 => ?_) (fun hc3 => ?_)
        · first
            | (exfalso; simp at hc3 <;> omega)
            | (
              (try simp at hc3)
              have e : useV m = m.rnt := by unfold useV; rw [if_pos (by assumption), if_pos (by omega)]
              rw [e]
              refine Z.seq ?_
              refine Z.region ?_
              refine Z.lb 1 rfl ?_
              refine Z.l rfl rfl (by rfl) (Z.keepS hs) (Z.Yd.nilc rfl rfl) ?_
              refine Z.l rfl rfl (by rfl) (Z.keepS hs) (Z.Yd.fieldA (m := 0) rfl (by kernel_rfl)) ?_
              refine Z.l rfl rfl (by rfl) (Z.keepS hs) (Z.Yd.fieldA (m := 1) rfl (by kernel_rfl)) ?_
              refine Z.l rfl rfl (by rfl) (Z.keepS hs) (Z.Yd.load rfl Try.isAgg3 (fun _ => Z.cellO hc.1 (by simp) (hc.2 1 _ rfl))) ?_
              refine Z.lb 1 rfl ?_
              refine Z.lnil ?_
              refine Z.only [2] rfl ?_
              refine Z.nthen ?_
              refine Z.ret ?_
              repeat (first | refine Z.rthen ?_ | refine Z.rblock ?_ | refine Z.rscope ?_)
              -- ret#1
              refine Z.out1 (by exact ⟨rfl, trivial⟩) ?_
              first | exact ⟨_, rfl, rfl, hs⟩ | exact ⟨_, rfl, rfl, hs.sub (List.nil_sublist _)⟩
              )
        · first
            | (exfalso; simp at hc3 <;> omega)
            | (
              (try simp at hc3)
              have e : useV m = m.rn := by unfold useV; rw [if_pos (by assumption), if_neg (by omega)]
              rw [e]
              refine Z.skip ?_
              refine Z.nblock ?_
              refine Z.nthen ?_
              refine Z.seq ?_
              refine Z.region ?_
              refine Z.lb 1 rfl ?_
              refine Z.l rfl rfl (by rfl) (Z.keepS hs) (Z.Yd.nilc rfl rfl) ?_
              refine Z.l rfl rfl (by rfl) (Z.keepS hs) (Z.Yd.fieldA (m := 12) rfl (by kernel_rfl)) ?_
              refine Z.l rfl rfl (by rfl) (Z.keepS hs) (Z.Yd.load rfl Try.isAgg3 (fun _ => Z.cellO hc.1 (by simp) (hc.2 12 _ rfl))) ?_
              refine Z.lb 1 rfl ?_
              refine Z.lnil ?_
              refine Z.only [2] rfl ?_
              refine Z.nthen ?_
              refine Z.ret ?_
              -- ret#2
              refine Z.out1 (by exact ⟨rfl, trivial⟩) ?_
              first | exact ⟨_, rfl, rfl, hs⟩ | exact ⟨_, rfl, rfl, hs.sub (List.nil_sublist _)⟩
              )
        )
def newV (i r n c x : Int) : AcV := ⟨i, r, n, c, x, 0, 0, -1, 0, 0, 0, 0, 0⟩
theorem newV_ok {i r n c x : Int} (h : (newV i r n c x).cfg) : (newV i r n c x).ok := by
  have h1 := h.2.2.2.2
  refine ⟨h, by simp [newV], by simp [newV], by simp [newV], by simp [newV], by simp [newV], ?_, by simp [newV], by simp [newV], by simp [newV]⟩
  simp only [newV] at h1 ⊢
  omega
instance (m : AcV) : Decidable m.cfg := by unfold AcV.cfg; infer_instance
theorem ac_new (i r n c x : Int) (w : World) (hi : 0 ≤ i) : Calls Try.prog 9 #[.agg #[.int .u64 i, .int .i64 r, .int .i64 n, .int .i64 c, .int .i64 x]] w (SX.Ret fun v w' => if (newV i r n c x).cfg then ∃ g, v = .tuple #[.pointer (some ⟨g, 0, none⟩), .int .i64 0] ∧ SX.St w [] w' [SX.Ent.blk g 64 (newV i r n c x).cells.toArray] else v = .tuple #[.pointer none, .int .i64 2] ∧ SX.St w [] w' []) := by
  have hs := SX.St.start w
  have hcf : (newV i r n c x).cfg ↔ (i < 281474976710656 ∧ (0 ≤ r ∧ r ≤ 65535) ∧ (1 ≤ n ∧ n ≤ 10) ∧ (1 ≤ c ∧ c ≤ 64) ∧ (1 ≤ x ∧ x ≤ 200)) := by
    unfold AcV.cfg newV
    simp only
    omega
  by_cases h : (newV i r n c x).cfg
  · simp only [if_pos h]
    have hc := hcf.1 h
    refine Z.enter Try.func9 rfl Try.ntmps9 rfl rfl ?_
    refine Z.seq ?_
    refine Z.region ?_
    refine Z.le rfl trivial ?_
    refine Z.ZO.box rfl rfl (by rfl) rfl rfl hs ?_
    clear hs; intro g1 w1 hs
    refine Z.lb 2 rfl ?_
    refine Z.lnil ?_
    refine Z.only [1] rfl ?_
    refine Z.nthen ?_
    refine Z.seq ?_
    refine Z.seq ?_
    refine Z.region ?_
    refine Z.l rfl rfl (by rfl) (Z.keepS hs) (Z.Yd.fieldA (m := 0) rfl (by kernel_rfl)) ?_
    refine Z.l rfl rfl (by rfl) (Z.keepS hs) (by first | exact Z.Yd.load rfl Try.isAgg22 (fun _ => Z.cellB (by first | ((repeat (first | exact List.mem_cons_self | refine List.mem_cons_of_mem _ ?_ | refine List.mem_append_right _ ?_)); done) | fail) rfl) | exact Z.Yd.load rfl Try.isAgg22 (fun _ => Z.cellO (by assumption) (by simp) (by assumption)) | fail "load 1.1") ?_
    refine Z.lb 2 rfl ?_
    refine Z.yes (s := 7) (b := false) rfl ((by simp; omega)) rfl ?_
    refine Z.l rfl rfl (by rfl) (Z.keepS hs) (Z.Yd.fieldA (m := 1) rfl (by kernel_rfl)) ?_
    refine Z.l rfl rfl (by rfl) (Z.keepS hs) (by first | exact Z.Yd.load rfl Try.isAgg3 (fun _ => Z.cellB (by first | ((repeat (first | exact List.mem_cons_self | refine List.mem_cons_of_mem _ ?_ | refine List.mem_append_right _ ?_)); done) | fail) rfl) | exact Z.Yd.load rfl Try.isAgg3 (fun _ => Z.cellO (by assumption) (by simp) (by assumption)) | fail "load 1.5") ?_
    refine Z.yes (s := 7) (b := false) rfl rfl rfl ?_
    refine Z.le rfl (by exact ⟨rfl, trivial⟩) ?_
    refine Z.ZO.call rfl rfl (by rfl) rfl rfl Try.call27 rfl (ac_inside r 0 65535 _) ?_
    rintro v1_6 w1_6 ⟨rfl, hy⟩
    replace hs := hs.call hy
    clear hy
    try simp only [List.cons_append, List.nil_append, List.append_nil] at hs
    refine Z.lb 1 rfl ?_
    refine Z.yes (s := 7) (b := false) rfl rfl rfl ?_
    refine Z.l rfl rfl (by rfl) (Z.keepS hs) (Z.Yd.pickF rfl rfl) ?_
    refine Z.lb 1 rfl ?_
    refine Z.yes (s := 13) (b := false) rfl ((by simp; omega)) rfl ?_
    refine Z.l rfl rfl (by rfl) (Z.keepS hs) (Z.Yd.fieldA (m := 2) rfl (by kernel_rfl)) ?_
    refine Z.l rfl rfl (by rfl) (Z.keepS hs) (by first | exact Z.Yd.load rfl Try.isAgg3 (fun _ => Z.cellB (by first | ((repeat (first | exact List.mem_cons_self | refine List.mem_cons_of_mem _ ?_ | refine List.mem_append_right _ ?_)); done) | fail) rfl) | exact Z.Yd.load rfl Try.isAgg3 (fun _ => Z.cellO (by assumption) (by simp) (by assumption)) | fail "load 1.11") ?_
    refine Z.yes (s := 13) (b := false) rfl rfl rfl ?_
    refine Z.le rfl (by exact ⟨rfl, trivial⟩) ?_
    refine Z.ZO.call rfl rfl (by rfl) rfl rfl Try.call27 rfl (ac_inside n 1 10 _) ?_
    rintro v1_12 w1_12 ⟨rfl, hy⟩
    replace hs := hs.call hy
    clear hy
    try simp only [List.cons_append, List.nil_append, List.append_nil] at hs
    refine Z.lb 1 rfl ?_
    refine Z.yes (s := 13) (b := false) rfl rfl rfl ?_
    refine Z.l rfl rfl (by rfl) (Z.keepS hs) (Z.Yd.pickF rfl rfl) ?_
    refine Z.lb 1 rfl ?_
    refine Z.yes (s := 19) (b := false) rfl ((by simp; omega)) rfl ?_
    refine Z.l rfl rfl (by rfl) (Z.keepS hs) (Z.Yd.fieldA (m := 3) rfl (by kernel_rfl)) ?_
    refine Z.l rfl rfl (by rfl) (Z.keepS hs) (by first | exact Z.Yd.load rfl Try.isAgg3 (fun _ => Z.cellB (by first | ((repeat (first | exact List.mem_cons_self | refine List.mem_cons_of_mem _ ?_ | refine List.mem_append_right _ ?_)); done) | fail) rfl) | exact Z.Yd.load rfl Try.isAgg3 (fun _ => Z.cellO (by assumption) (by simp) (by assumption)) | fail "load 1.17") ?_
    refine Z.yes (s := 19) (b := false) rfl rfl rfl ?_
    refine Z.le rfl (by exact ⟨rfl, trivial⟩) ?_
    refine Z.ZO.call rfl rfl (by rfl) rfl rfl Try.call27 rfl (ac_inside c 1 64 _) ?_
    rintro v1_18 w1_18 ⟨rfl, hy⟩
    replace hs := hs.call hy
    clear hy
    try simp only [List.cons_append, List.nil_append, List.append_nil] at hs
    refine Z.lb 1 rfl ?_
    refine Z.yes (s := 19) (b := false) rfl rfl rfl ?_
    refine Z.l rfl rfl (by rfl) (Z.keepS hs) (Z.Yd.pickF rfl rfl) ?_
    refine Z.lb 1 rfl ?_
    refine Z.yes (s := 25) (b := false) rfl ((by simp; omega)) rfl ?_
    refine Z.l rfl rfl (by rfl) (Z.keepS hs) (Z.Yd.fieldA (m := 4) rfl (by kernel_rfl)) ?_
    refine Z.l rfl rfl (by rfl) (Z.keepS hs) (by first | exact Z.Yd.load rfl Try.isAgg3 (fun _ => Z.cellB (by first | ((repeat (first | exact List.mem_cons_self | refine List.mem_cons_of_mem _ ?_ | refine List.mem_append_right _ ?_)); done) | fail) rfl) | exact Z.Yd.load rfl Try.isAgg3 (fun _ => Z.cellO (by assumption) (by simp) (by assumption)) | fail "load 1.23") ?_
    refine Z.yes (s := 25) (b := false) rfl rfl rfl ?_
    refine Z.le rfl (by exact ⟨rfl, trivial⟩) ?_
    refine Z.ZO.call rfl rfl (by rfl) rfl rfl Try.call27 rfl (ac_inside x 1 200 _) ?_
    rintro v1_24 w1_24 ⟨rfl, hy⟩
    replace hs := hs.call hy
    clear hy
    try simp only [List.cons_append, List.nil_append, List.append_nil] at hs
    refine Z.lb 1 rfl ?_
    refine Z.yes (s := 25) (b := false) rfl rfl rfl ?_
    refine Z.l rfl rfl (by rfl) (Z.keepS hs) (Z.Yd.pickF rfl rfl) ?_
    refine Z.lnil ?_
    refine Z.only [1, 30] rfl ?_
    refine Z.nthen ?_
    refine Z.cond rfl (fun h => absurd h (by simp; omega)) (fun hc1 => ?_)
    refine Z.skip ?_
    refine Z.nthen ?_
    refine Z.seq ?_
    refine Z.region ?_
    refine Z.l rfl rfl (by rfl) (Z.keepS hs) (by first | exact Z.Yd.loadA _ rfl Try.isAgg24 (fun _ => Z.cellsB (by first | ((repeat (first | exact List.mem_cons_self | refine List.mem_cons_of_mem _ ?_ | refine List.mem_append_right _ ?_)); done) | fail)) (by exact Try.sizeOf24) | fail "load 3.0") ?_
    refine Z.l rfl rfl (by rfl) (Z.keepS hs) (Z.Yd.buildL [(0, 5), (5, 1), (6, 1), (7, 1), (8, 1), (9, 1), (10, 1), (11, 1), (12, 1)] [.int .u64 0, .int .i64 0, .int .i64 0, .int .i64 0, .int .i64 0, .int .i64 0, .int .i64 0, .int .i64 0, .int .i64 0, .int .i64 0, .int .i64 0, .int .i64 0, .int .i64 0] rfl rfl (by intro w; kernel_rfl)) ?_
    refine Z.le rfl trivial ?_
    refine Z.ZO.box rfl rfl (by rfl) rfl rfl hs ?_
    clear hs; intro g33 w33 hs
    refine Z.lb 2 rfl ?_
    refine Z.lnil ?_
    refine Z.only [2, 3] rfl ?_
    refine Z.nthen ?_
    refine Z.ret ?_
    -- ret#0
    refine Z.out2 (by exact ⟨rfl, rfl, trivial⟩) ?_
    exact ⟨_, rfl, _, rfl, hs.sel [0] (by decide)⟩
  · simp only [if_neg h]
    have hc : ¬ (i < 281474976710656 ∧ (0 ≤ r ∧ r ≤ 65535) ∧ (1 ≤ n ∧ n ≤ 10) ∧ (1 ≤ c ∧ c ≤ 64) ∧ (1 ≤ x ∧ x ≤ 200)) := fun h2 => h (hcf.2 h2)
    refine Z.enter Try.func9 rfl Try.ntmps9 rfl rfl ?_
    refine Z.seq ?_
    refine Z.region ?_
    refine Z.le rfl trivial ?_
    refine Z.ZO.box rfl rfl (by rfl) rfl rfl hs ?_
    clear hs; intro g1 w1 hs
    refine Z.lb 2 rfl ?_
    refine Z.lnil ?_
    refine Z.only [1] rfl ?_
    refine Z.nthen ?_
    refine Z.seq ?_
    refine Z.seq ?_
    refine Z.region ?_
    refine Z.l rfl rfl (by rfl) (Z.keepS hs) (Z.Yd.fieldA (m := 0) rfl (by kernel_rfl)) ?_
    refine Z.l rfl rfl (by rfl) (Z.keepS hs) (by first | exact Z.Yd.load rfl Try.isAgg22 (fun _ => Z.cellB (by first | ((repeat (first | exact List.mem_cons_self | refine List.mem_cons_of_mem _ ?_ | refine List.mem_append_right _ ?_)); done) | fail) rfl) | exact Z.Yd.load rfl Try.isAgg22 (fun _ => Z.cellO (by assumption) (by simp) (by assumption)) | fail "load 1.1") ?_
    refine Z.lb 2 rfl ?_
    refine Z.split (s := 7) rfl (fun hsp7 => ?_) (fun hsp7 => ?_)
    · first
        | (exfalso; simp at hsp7 <;> omega)
        | (
          refine Z.yes (s := 7) (b := true) rfl hsp7 rfl ?_
          (try simp at hsp7)
          refine Z.ls rfl rfl rfl (by rfl) ?_
          refine Z.ls rfl rfl rfl (by rfl) ?_
          refine Z.ls rfl rfl rfl (by rfl) ?_
          refine Z.ls rfl rfl rfl (by rfl) ?_
          refine Z.l rfl rfl (by rfl) (Z.keepS hs) (Z.Yd.pickT rfl rfl) ?_
          refine Z.lb 1 rfl ?_
          refine Z.split (s := 13) rfl (fun hsp13 => ?_) (fun hsp13 => ?_)
          · first
              | (exfalso; simp at hsp13 <;> omega)
              | (
                refine Z.yes (s := 13) (b := true) rfl hsp13 rfl ?_
                (try simp at hsp13)
                refine Z.ls rfl rfl rfl (by rfl) ?_
                refine Z.ls rfl rfl rfl (by rfl) ?_
                refine Z.ls rfl rfl rfl (by rfl) ?_
                refine Z.ls rfl rfl rfl (by rfl) ?_
                refine Z.l rfl rfl (by rfl) (Z.keepS hs) (Z.Yd.pickT rfl rfl) ?_
                refine Z.lb 1 rfl ?_
                refine Z.split (s := 19) rfl (fun hsp19 => ?_) (fun hsp19 => ?_)
                · first
                    | (exfalso; simp at hsp19 <;> omega)
                    | (
                      refine Z.yes (s := 19) (b := true) rfl hsp19 rfl ?_
                      (try simp at hsp19)
                      refine Z.ls rfl rfl rfl (by rfl) ?_
                      refine Z.ls rfl rfl rfl (by rfl) ?_
                      refine Z.ls rfl rfl rfl (by rfl) ?_
                      refine Z.ls rfl rfl rfl (by rfl) ?_
                      refine Z.l rfl rfl (by rfl) (Z.keepS hs) (Z.Yd.pickT rfl rfl) ?_
                      refine Z.lb 1 rfl ?_
                      refine Z.split (s := 25) rfl (fun hsp25 => ?_) (fun hsp25 => ?_)
                      · first
                          | (exfalso; simp at hsp25 <;> omega)
                          | (
                            refine Z.yes (s := 25) (b := true) rfl hsp25 rfl ?_
                            (try simp at hsp25)
                            refine Z.ls rfl rfl rfl (by rfl) ?_
                            refine Z.ls rfl rfl rfl (by rfl) ?_
                            refine Z.ls rfl rfl rfl (by rfl) ?_
                            refine Z.ls rfl rfl rfl (by rfl) ?_
                            refine Z.l rfl rfl (by rfl) (Z.keepS hs) (Z.Yd.pickT rfl rfl) ?_
                            refine Z.lnil ?_
                            refine Z.only [1, 30] rfl ?_
                            refine Z.nthen ?_
                            refine Z.cond rfl (fun hc1 => ?_) (fun h => absurd h (by first | (simp; done) | (simp; omega)))
                            refine Z.seq ?_
                            refine Z.region ?_
                            refine Z.lb 2 rfl ?_
                            refine Z.lnil ?_
                            refine Z.only [2, 3] rfl ?_
                            refine Z.nthen ?_
                            refine Z.ret ?_
                            repeat (first | refine Z.rthen ?_ | refine Z.rblock ?_ | refine Z.rscope ?_)
                            -- ret#0
                            refine Z.out2 (by exact ⟨rfl, rfl, trivial⟩) ?_
                            exact ⟨_, rfl, rfl, hs.sub (List.nil_sublist _)⟩
                            )
                      · first
                          | (exfalso; simp at hsp25 <;> omega)
                          | (
                            refine Z.yes (s := 25) (b := false) rfl hsp25 rfl ?_
                            (try simp at hsp25)
                            refine Z.l rfl rfl (by rfl) (Z.keepS hs) (Z.Yd.fieldA (m := 4) rfl (by kernel_rfl)) ?_
                            refine Z.l rfl rfl (by rfl) (Z.keepS hs) (by first | exact Z.Yd.load rfl Try.isAgg3 (fun _ => Z.cellB (by first | ((repeat (first | exact List.mem_cons_self | refine List.mem_cons_of_mem _ ?_ | refine List.mem_append_right _ ?_)); done) | fail) rfl) | exact Z.Yd.load rfl Try.isAgg3 (fun _ => Z.cellO (by assumption) (by simp) (by assumption)) | fail "load 1.23") ?_
                            refine Z.yes (s := 25) (b := false) rfl rfl rfl ?_
                            refine Z.le rfl (by exact ⟨rfl, trivial⟩) ?_
                            refine Z.ZO.call rfl rfl (by rfl) rfl rfl Try.call27 rfl (ac_inside x 1 200 _) ?_
                            rintro v1_24 w1_24 ⟨rfl, hy⟩
                            replace hs := hs.call hy
                            clear hy
                            try simp only [List.cons_append, List.nil_append, List.append_nil] at hs
                            refine Z.lb 1 rfl ?_
                            refine Z.yes (s := 25) (b := false) rfl rfl rfl ?_
                            refine Z.l rfl rfl (by rfl) (Z.keepS hs) (Z.Yd.pickF rfl rfl) ?_
                            refine Z.lnil ?_
                            refine Z.only [1, 30] rfl ?_
                            refine Z.nthen ?_
                            refine Z.cond rfl (fun hc1 => ?_) (fun h => absurd h (by first | (simp; done) | (simp; omega)))
                            refine Z.seq ?_
                            refine Z.region ?_
                            refine Z.lb 2 rfl ?_
                            refine Z.lnil ?_
                            refine Z.only [2, 3] rfl ?_
                            refine Z.nthen ?_
                            refine Z.ret ?_
                            repeat (first | refine Z.rthen ?_ | refine Z.rblock ?_ | refine Z.rscope ?_)
                            -- ret#1
                            refine Z.out2 (by exact ⟨rfl, rfl, trivial⟩) ?_
                            exact ⟨_, rfl, rfl, hs.sub (List.nil_sublist _)⟩
                            )
                      )
                · first
                    | (exfalso; simp at hsp19 <;> omega)
                    | (
                      refine Z.yes (s := 19) (b := false) rfl hsp19 rfl ?_
                      (try simp at hsp19)
                      refine Z.l rfl rfl (by rfl) (Z.keepS hs) (Z.Yd.fieldA (m := 3) rfl (by kernel_rfl)) ?_
                      refine Z.l rfl rfl (by rfl) (Z.keepS hs) (by first | exact Z.Yd.load rfl Try.isAgg3 (fun _ => Z.cellB (by first | ((repeat (first | exact List.mem_cons_self | refine List.mem_cons_of_mem _ ?_ | refine List.mem_append_right _ ?_)); done) | fail) rfl) | exact Z.Yd.load rfl Try.isAgg3 (fun _ => Z.cellO (by assumption) (by simp) (by assumption)) | fail "load 1.17") ?_
                      refine Z.yes (s := 19) (b := false) rfl rfl rfl ?_
                      refine Z.le rfl (by exact ⟨rfl, trivial⟩) ?_
                      refine Z.ZO.call rfl rfl (by rfl) rfl rfl Try.call27 rfl (ac_inside c 1 64 _) ?_
                      rintro v1_18 w1_18 ⟨rfl, hy⟩
                      replace hs := hs.call hy
                      clear hy
                      try simp only [List.cons_append, List.nil_append, List.append_nil] at hs
                      refine Z.lb 1 rfl ?_
                      refine Z.yes (s := 19) (b := false) rfl rfl rfl ?_
                      refine Z.l rfl rfl (by rfl) (Z.keepS hs) (Z.Yd.pickF rfl rfl) ?_
                      refine Z.lb 1 rfl ?_
                      refine Z.split (s := 25) rfl (fun hsp25 => ?_) (fun hsp25 => ?_)
                      · first
                          | (exfalso; simp at hsp25 <;> omega)
                          | (
                            refine Z.yes (s := 25) (b := true) rfl hsp25 rfl ?_
                            (try simp at hsp25)
                            refine Z.ls rfl rfl rfl (by rfl) ?_
                            refine Z.ls rfl rfl rfl (by rfl) ?_
                            refine Z.ls rfl rfl rfl (by rfl) ?_
                            refine Z.ls rfl rfl rfl (by rfl) ?_
                            refine Z.l rfl rfl (by rfl) (Z.keepS hs) (Z.Yd.pickT rfl rfl) ?_
                            refine Z.lnil ?_
                            refine Z.only [1, 30] rfl ?_
                            refine Z.nthen ?_
                            refine Z.cond rfl (fun hc1 => ?_) (fun h => absurd h (by first | (simp; done) | (simp; omega)))
                            refine Z.seq ?_
                            refine Z.region ?_
                            refine Z.lb 2 rfl ?_
                            refine Z.lnil ?_
                            refine Z.only [2, 3] rfl ?_
                            refine Z.nthen ?_
                            refine Z.ret ?_
                            repeat (first | refine Z.rthen ?_ | refine Z.rblock ?_ | refine Z.rscope ?_)
                            -- ret#2
                            refine Z.out2 (by exact ⟨rfl, rfl, trivial⟩) ?_
                            exact ⟨_, rfl, rfl, hs.sub (List.nil_sublist _)⟩
                            )
                      · first
                          | (exfalso; simp at hsp25 <;> omega)
                          | (
                            refine Z.yes (s := 25) (b := false) rfl hsp25 rfl ?_
                            (try simp at hsp25)
                            refine Z.l rfl rfl (by rfl) (Z.keepS hs) (Z.Yd.fieldA (m := 4) rfl (by kernel_rfl)) ?_
                            refine Z.l rfl rfl (by rfl) (Z.keepS hs) (by first | exact Z.Yd.load rfl Try.isAgg3 (fun _ => Z.cellB (by first | ((repeat (first | exact List.mem_cons_self | refine List.mem_cons_of_mem _ ?_ | refine List.mem_append_right _ ?_)); done) | fail) rfl) | exact Z.Yd.load rfl Try.isAgg3 (fun _ => Z.cellO (by assumption) (by simp) (by assumption)) | fail "load 1.23") ?_
                            refine Z.yes (s := 25) (b := false) rfl rfl rfl ?_
                            refine Z.le rfl (by exact ⟨rfl, trivial⟩) ?_
                            refine Z.ZO.call rfl rfl (by rfl) rfl rfl Try.call27 rfl (ac_inside x 1 200 _) ?_
                            rintro v1_24 w1_24 ⟨rfl, hy⟩
                            replace hs := hs.call hy
                            clear hy
                            try simp only [List.cons_append, List.nil_append, List.append_nil] at hs
                            refine Z.lb 1 rfl ?_
                            refine Z.yes (s := 25) (b := false) rfl rfl rfl ?_
                            refine Z.l rfl rfl (by rfl) (Z.keepS hs) (Z.Yd.pickF rfl rfl) ?_
                            refine Z.lnil ?_
                            refine Z.only [1, 30] rfl ?_
                            refine Z.nthen ?_
                            refine Z.cond rfl (fun hc1 => ?_) (fun h => absurd h (by first | (simp; done) | (simp; omega)))
                            refine Z.seq ?_
                            refine Z.region ?_
                            refine Z.lb 2 rfl ?_
                            refine Z.lnil ?_
                            refine Z.only [2, 3] rfl ?_
                            refine Z.nthen ?_
                            refine Z.ret ?_
                            repeat (first | refine Z.rthen ?_ | refine Z.rblock ?_ | refine Z.rscope ?_)
                            -- ret#3
                            refine Z.out2 (by exact ⟨rfl, rfl, trivial⟩) ?_
                            exact ⟨_, rfl, rfl, hs.sub (List.nil_sublist _)⟩
                            )
                      )
                )
          · first
              | (exfalso; simp at hsp13 <;> omega)
              | (
                refine Z.yes (s := 13) (b := false) rfl hsp13 rfl ?_
                (try simp at hsp13)
                refine Z.l rfl rfl (by rfl) (Z.keepS hs) (Z.Yd.fieldA (m := 2) rfl (by kernel_rfl)) ?_
                refine Z.l rfl rfl (by rfl) (Z.keepS hs) (by first | exact Z.Yd.load rfl Try.isAgg3 (fun _ => Z.cellB (by first | ((repeat (first | exact List.mem_cons_self | refine List.mem_cons_of_mem _ ?_ | refine List.mem_append_right _ ?_)); done) | fail) rfl) | exact Z.Yd.load rfl Try.isAgg3 (fun _ => Z.cellO (by assumption) (by simp) (by assumption)) | fail "load 1.11") ?_
                refine Z.yes (s := 13) (b := false) rfl rfl rfl ?_
                refine Z.le rfl (by exact ⟨rfl, trivial⟩) ?_
                refine Z.ZO.call rfl rfl (by rfl) rfl rfl Try.call27 rfl (ac_inside n 1 10 _) ?_
                rintro v1_12 w1_12 ⟨rfl, hy⟩
                replace hs := hs.call hy
                clear hy
                try simp only [List.cons_append, List.nil_append, List.append_nil] at hs
                refine Z.lb 1 rfl ?_
                refine Z.yes (s := 13) (b := false) rfl rfl rfl ?_
                refine Z.l rfl rfl (by rfl) (Z.keepS hs) (Z.Yd.pickF rfl rfl) ?_
                refine Z.lb 1 rfl ?_
                refine Z.split (s := 19) rfl (fun hsp19 => ?_) (fun hsp19 => ?_)
                · first
                    | (exfalso; simp at hsp19 <;> omega)
                    | (
                      refine Z.yes (s := 19) (b := true) rfl hsp19 rfl ?_
                      (try simp at hsp19)
                      refine Z.ls rfl rfl rfl (by rfl) ?_
                      refine Z.ls rfl rfl rfl (by rfl) ?_
                      refine Z.ls rfl rfl rfl (by rfl) ?_
                      refine Z.ls rfl rfl rfl (by rfl) ?_
                      refine Z.l rfl rfl (by rfl) (Z.keepS hs) (Z.Yd.pickT rfl rfl) ?_
                      refine Z.lb 1 rfl ?_
                      refine Z.split (s := 25) rfl (fun hsp25 => ?_) (fun hsp25 => ?_)
                      · first
                          | (exfalso; simp at hsp25 <;> omega)
                          | (
                            refine Z.yes (s := 25) (b := true) rfl hsp25 rfl ?_
                            (try simp at hsp25)
                            refine Z.ls rfl rfl rfl (by rfl) ?_
                            refine Z.ls rfl rfl rfl (by rfl) ?_
                            refine Z.ls rfl rfl rfl (by rfl) ?_
                            refine Z.ls rfl rfl rfl (by rfl) ?_
                            refine Z.l rfl rfl (by rfl) (Z.keepS hs) (Z.Yd.pickT rfl rfl) ?_
                            refine Z.lnil ?_
                            refine Z.only [1, 30] rfl ?_
                            refine Z.nthen ?_
                            refine Z.cond rfl (fun hc1 => ?_) (fun h => absurd h (by first | (simp; done) | (simp; omega)))
                            refine Z.seq ?_
                            refine Z.region ?_
                            refine Z.lb 2 rfl ?_
                            refine Z.lnil ?_
                            refine Z.only [2, 3] rfl ?_
                            refine Z.nthen ?_
                            refine Z.ret ?_
                            repeat (first | refine Z.rthen ?_ | refine Z.rblock ?_ | refine Z.rscope ?_)
                            -- ret#4
                            refine Z.out2 (by exact ⟨rfl, rfl, trivial⟩) ?_
                            exact ⟨_, rfl, rfl, hs.sub (List.nil_sublist _)⟩
                            )
                      · first
                          | (exfalso; simp at hsp25 <;> omega)
                          | (
                            refine Z.yes (s := 25) (b := false) rfl hsp25 rfl ?_
                            (try simp at hsp25)
                            refine Z.l rfl rfl (by rfl) (Z.keepS hs) (Z.Yd.fieldA (m := 4) rfl (by kernel_rfl)) ?_
                            refine Z.l rfl rfl (by rfl) (Z.keepS hs) (by first | exact Z.Yd.load rfl Try.isAgg3 (fun _ => Z.cellB (by first | ((repeat (first | exact List.mem_cons_self | refine List.mem_cons_of_mem _ ?_ | refine List.mem_append_right _ ?_)); done) | fail) rfl) | exact Z.Yd.load rfl Try.isAgg3 (fun _ => Z.cellO (by assumption) (by simp) (by assumption)) | fail "load 1.23") ?_
                            refine Z.yes (s := 25) (b := false) rfl rfl rfl ?_
                            refine Z.le rfl (by exact ⟨rfl, trivial⟩) ?_
                            refine Z.ZO.call rfl rfl (by rfl) rfl rfl Try.call27 rfl (ac_inside x 1 200 _) ?_
                            rintro v1_24 w1_24 ⟨rfl, hy⟩
                            replace hs := hs.call hy
                            clear hy
                            try simp only [List.cons_append, List.nil_append, List.append_nil] at hs
                            refine Z.lb 1 rfl ?_
                            refine Z.yes (s := 25) (b := false) rfl rfl rfl ?_
                            refine Z.l rfl rfl (by rfl) (Z.keepS hs) (Z.Yd.pickF rfl rfl) ?_
                            refine Z.lnil ?_
                            refine Z.only [1, 30] rfl ?_
                            refine Z.nthen ?_
                            refine Z.cond rfl (fun hc1 => ?_) (fun h => absurd h (by first | (simp; done) | (simp; omega)))
                            refine Z.seq ?_
                            refine Z.region ?_
                            refine Z.lb 2 rfl ?_
                            refine Z.lnil ?_
                            refine Z.only [2, 3] rfl ?_
                            refine Z.nthen ?_
                            refine Z.ret ?_
                            repeat (first | refine Z.rthen ?_ | refine Z.rblock ?_ | refine Z.rscope ?_)
                            -- ret#5
                            refine Z.out2 (by exact ⟨rfl, rfl, trivial⟩) ?_
                            exact ⟨_, rfl, rfl, hs.sub (List.nil_sublist _)⟩
                            )
                      )
                · first
                    | (exfalso; simp at hsp19 <;> omega)
                    | (
                      refine Z.yes (s := 19) (b := false) rfl hsp19 rfl ?_
                      (try simp at hsp19)
                      refine Z.l rfl rfl (by rfl) (Z.keepS hs) (Z.Yd.fieldA (m := 3) rfl (by kernel_rfl)) ?_
                      refine Z.l rfl rfl (by rfl) (Z.keepS hs) (by first | exact Z.Yd.load rfl Try.isAgg3 (fun _ => Z.cellB (by first | ((repeat (first | exact List.mem_cons_self | refine List.mem_cons_of_mem _ ?_ | refine List.mem_append_right _ ?_)); done) | fail) rfl) | exact Z.Yd.load rfl Try.isAgg3 (fun _ => Z.cellO (by assumption) (by simp) (by assumption)) | fail "load 1.17") ?_
                      refine Z.yes (s := 19) (b := false) rfl rfl rfl ?_
                      refine Z.le rfl (by exact ⟨rfl, trivial⟩) ?_
                      refine Z.ZO.call rfl rfl (by rfl) rfl rfl Try.call27 rfl (ac_inside c 1 64 _) ?_
                      rintro v1_18 w1_18 ⟨rfl, hy⟩
                      replace hs := hs.call hy
                      clear hy
                      try simp only [List.cons_append, List.nil_append, List.append_nil] at hs
                      refine Z.lb 1 rfl ?_
                      refine Z.yes (s := 19) (b := false) rfl rfl rfl ?_
                      refine Z.l rfl rfl (by rfl) (Z.keepS hs) (Z.Yd.pickF rfl rfl) ?_
                      refine Z.lb 1 rfl ?_
                      refine Z.split (s := 25) rfl (fun hsp25 => ?_) (fun hsp25 => ?_)
                      · first
                          | (exfalso; simp at hsp25 <;> omega)
                          | (
                            refine Z.yes (s := 25) (b := true) rfl hsp25 rfl ?_
                            (try simp at hsp25)
                            refine Z.ls rfl rfl rfl (by rfl) ?_
                            refine Z.ls rfl rfl rfl (by rfl) ?_
                            refine Z.ls rfl rfl rfl (by rfl) ?_
                            refine Z.ls rfl rfl rfl (by rfl) ?_
                            refine Z.l rfl rfl (by rfl) (Z.keepS hs) (Z.Yd.pickT rfl rfl) ?_
                            refine Z.lnil ?_
                            refine Z.only [1, 30] rfl ?_
                            refine Z.nthen ?_
                            refine Z.cond rfl (fun hc1 => ?_) (fun h => absurd h (by first | (simp; done) | (simp; omega)))
                            refine Z.seq ?_
                            refine Z.region ?_
                            refine Z.lb 2 rfl ?_
                            refine Z.lnil ?_
                            refine Z.only [2, 3] rfl ?_
                            refine Z.nthen ?_
                            refine Z.ret ?_
                            repeat (first | refine Z.rthen ?_ | refine Z.rblock ?_ | refine Z.rscope ?_)
                            -- ret#6
                            refine Z.out2 (by exact ⟨rfl, rfl, trivial⟩) ?_
                            exact ⟨_, rfl, rfl, hs.sub (List.nil_sublist _)⟩
                            )
                      · first
                          | (exfalso; simp at hsp25 <;> omega)
                          | (
                            refine Z.yes (s := 25) (b := false) rfl hsp25 rfl ?_
                            (try simp at hsp25)
                            refine Z.l rfl rfl (by rfl) (Z.keepS hs) (Z.Yd.fieldA (m := 4) rfl (by kernel_rfl)) ?_
                            refine Z.l rfl rfl (by rfl) (Z.keepS hs) (by first | exact Z.Yd.load rfl Try.isAgg3 (fun _ => Z.cellB (by first | ((repeat (first | exact List.mem_cons_self | refine List.mem_cons_of_mem _ ?_ | refine List.mem_append_right _ ?_)); done) | fail) rfl) | exact Z.Yd.load rfl Try.isAgg3 (fun _ => Z.cellO (by assumption) (by simp) (by assumption)) | fail "load 1.23") ?_
                            refine Z.yes (s := 25) (b := false) rfl rfl rfl ?_
                            refine Z.le rfl (by exact ⟨rfl, trivial⟩) ?_
                            refine Z.ZO.call rfl rfl (by rfl) rfl rfl Try.call27 rfl (ac_inside x 1 200 _) ?_
                            rintro v1_24 w1_24 ⟨rfl, hy⟩
                            replace hs := hs.call hy
                            clear hy
                            try simp only [List.cons_append, List.nil_append, List.append_nil] at hs
                            refine Z.lb 1 rfl ?_
                            refine Z.yes (s := 25) (b := false) rfl rfl rfl ?_
                            refine Z.l rfl rfl (by rfl) (Z.keepS hs) (Z.Yd.pickF rfl rfl) ?_
                            refine Z.lnil ?_
                            refine Z.only [1, 30] rfl ?_
                            refine Z.nthen ?_
                            refine Z.cond rfl (fun hc1 => ?_) (fun h => absurd h (by first | (simp; done) | (simp; omega)))
                            refine Z.seq ?_
                            refine Z.region ?_
                            refine Z.lb 2 rfl ?_
                            refine Z.lnil ?_
                            refine Z.only [2, 3] rfl ?_
                            refine Z.nthen ?_
                            refine Z.ret ?_
                            repeat (first | refine Z.rthen ?_ | refine Z.rblock ?_ | refine Z.rscope ?_)
                            -- ret#7
                            refine Z.out2 (by exact ⟨rfl, rfl, trivial⟩) ?_
                            exact ⟨_, rfl, rfl, hs.sub (List.nil_sublist _)⟩
                            )
                      )
                )
          )
    · first
        | (exfalso; simp at hsp7 <;> omega)
        | (
          refine Z.yes (s := 7) (b := false) rfl hsp7 rfl ?_
          (try simp at hsp7)
          refine Z.l rfl rfl (by rfl) (Z.keepS hs) (Z.Yd.fieldA (m := 1) rfl (by kernel_rfl)) ?_
          refine Z.l rfl rfl (by rfl) (Z.keepS hs) (by first | exact Z.Yd.load rfl Try.isAgg3 (fun _ => Z.cellB (by first | ((repeat (first | exact List.mem_cons_self | refine List.mem_cons_of_mem _ ?_ | refine List.mem_append_right _ ?_)); done) | fail) rfl) | exact Z.Yd.load rfl Try.isAgg3 (fun _ => Z.cellO (by assumption) (by simp) (by assumption)) | fail "load 1.5") ?_
          refine Z.yes (s := 7) (b := false) rfl rfl rfl ?_
          refine Z.le rfl (by exact ⟨rfl, trivial⟩) ?_
          refine Z.ZO.call rfl rfl (by rfl) rfl rfl Try.call27 rfl (ac_inside r 0 65535 _) ?_
          rintro v1_6 w1_6 ⟨rfl, hy⟩
          replace hs := hs.call hy
          clear hy
          try simp only [List.cons_append, List.nil_append, List.append_nil] at hs
          refine Z.lb 1 rfl ?_
          refine Z.yes (s := 7) (b := false) rfl rfl rfl ?_
          refine Z.l rfl rfl (by rfl) (Z.keepS hs) (Z.Yd.pickF rfl rfl) ?_
          refine Z.lb 1 rfl ?_
          refine Z.split (s := 13) rfl (fun hsp13 => ?_) (fun hsp13 => ?_)
          · first
              | (exfalso; simp at hsp13 <;> omega)
              | (
                refine Z.yes (s := 13) (b := true) rfl hsp13 rfl ?_
                (try simp at hsp13)
                refine Z.ls rfl rfl rfl (by rfl) ?_
                refine Z.ls rfl rfl rfl (by rfl) ?_
                refine Z.ls rfl rfl rfl (by rfl) ?_
                refine Z.ls rfl rfl rfl (by rfl) ?_
                refine Z.l rfl rfl (by rfl) (Z.keepS hs) (Z.Yd.pickT rfl rfl) ?_
                refine Z.lb 1 rfl ?_
                refine Z.split (s := 19) rfl (fun hsp19 => ?_) (fun hsp19 => ?_)
                · first
                    | (exfalso; simp at hsp19 <;> omega)
                    | (
                      refine Z.yes (s := 19) (b := true) rfl hsp19 rfl ?_
                      (try simp at hsp19)
                      refine Z.ls rfl rfl rfl (by rfl) ?_
                      refine Z.ls rfl rfl rfl (by rfl) ?_
                      refine Z.ls rfl rfl rfl (by rfl) ?_
                      refine Z.ls rfl rfl rfl (by rfl) ?_
                      refine Z.l rfl rfl (by rfl) (Z.keepS hs) (Z.Yd.pickT rfl rfl) ?_
                      refine Z.lb 1 rfl ?_
                      refine Z.split (s := 25) rfl (fun hsp25 => ?_) (fun hsp25 => ?_)
                      · first
                          | (exfalso; simp at hsp25 <;> omega)
                          | (
                            refine Z.yes (s := 25) (b := true) rfl hsp25 rfl ?_
                            (try simp at hsp25)
                            refine Z.ls rfl rfl rfl (by rfl) ?_
                            refine Z.ls rfl rfl rfl (by rfl) ?_
                            refine Z.ls rfl rfl rfl (by rfl) ?_
                            refine Z.ls rfl rfl rfl (by rfl) ?_
                            refine Z.l rfl rfl (by rfl) (Z.keepS hs) (Z.Yd.pickT rfl rfl) ?_
                            refine Z.lnil ?_
                            refine Z.only [1, 30] rfl ?_
                            refine Z.nthen ?_
                            refine Z.cond rfl (fun hc1 => ?_) (fun h => absurd h (by first | (simp; done) | (simp; omega)))
                            refine Z.seq ?_
                            refine Z.region ?_
                            refine Z.lb 2 rfl ?_
                            refine Z.lnil ?_
                            refine Z.only [2, 3] rfl ?_
                            refine Z.nthen ?_
                            refine Z.ret ?_
                            repeat (first | refine Z.rthen ?_ | refine Z.rblock ?_ | refine Z.rscope ?_)
                            -- ret#8
                            refine Z.out2 (by exact ⟨rfl, rfl, trivial⟩) ?_
                            exact ⟨_, rfl, rfl, hs.sub (List.nil_sublist _)⟩
                            )
                      · first
                          | (exfalso; simp at hsp25 <;> omega)
                          | (
                            refine Z.yes (s := 25) (b := false) rfl hsp25 rfl ?_
                            (try simp at hsp25)
                            refine Z.l rfl rfl (by rfl) (Z.keepS hs) (Z.Yd.fieldA (m := 4) rfl (by kernel_rfl)) ?_
                            refine Z.l rfl rfl (by rfl) (Z.keepS hs) (by first | exact Z.Yd.load rfl Try.isAgg3 (fun _ => Z.cellB (by first | ((repeat (first | exact List.mem_cons_self | refine List.mem_cons_of_mem _ ?_ | refine List.mem_append_right _ ?_)); done) | fail) rfl) | exact Z.Yd.load rfl Try.isAgg3 (fun _ => Z.cellO (by assumption) (by simp) (by assumption)) | fail "load 1.23") ?_
                            refine Z.yes (s := 25) (b := false) rfl rfl rfl ?_
                            refine Z.le rfl (by exact ⟨rfl, trivial⟩) ?_
                            refine Z.ZO.call rfl rfl (by rfl) rfl rfl Try.call27 rfl (ac_inside x 1 200 _) ?_
                            rintro v1_24 w1_24 ⟨rfl, hy⟩
                            replace hs := hs.call hy
                            clear hy
                            try simp only [List.cons_append, List.nil_append, List.append_nil] at hs
                            refine Z.lb 1 rfl ?_
                            refine Z.yes (s := 25) (b := false) rfl rfl rfl ?_
                            refine Z.l rfl rfl (by rfl) (Z.keepS hs) (Z.Yd.pickF rfl rfl) ?_
                            refine Z.lnil ?_
                            refine Z.only [1, 30] rfl ?_
                            refine Z.nthen ?_
                            refine Z.cond rfl (fun hc1 => ?_) (fun h => absurd h (by first | (simp; done) | (simp; omega)))
                            refine Z.seq ?_
                            refine Z.region ?_
                            refine Z.lb 2 rfl ?_
                            refine Z.lnil ?_
                            refine Z.only [2, 3] rfl ?_
                            refine Z.nthen ?_
                            refine Z.ret ?_
                            repeat (first | refine Z.rthen ?_ | refine Z.rblock ?_ | refine Z.rscope ?_)
                            -- ret#9
                            refine Z.out2 (by exact ⟨rfl, rfl, trivial⟩) ?_
                            exact ⟨_, rfl, rfl, hs.sub (List.nil_sublist _)⟩
                            )
                      )
                · first
                    | (exfalso; simp at hsp19 <;> omega)
                    | (
                      refine Z.yes (s := 19) (b := false) rfl hsp19 rfl ?_
                      (try simp at hsp19)
                      refine Z.l rfl rfl (by rfl) (Z.keepS hs) (Z.Yd.fieldA (m := 3) rfl (by kernel_rfl)) ?_
                      refine Z.l rfl rfl (by rfl) (Z.keepS hs) (by first | exact Z.Yd.load rfl Try.isAgg3 (fun _ => Z.cellB (by first | ((repeat (first | exact List.mem_cons_self | refine List.mem_cons_of_mem _ ?_ | refine List.mem_append_right _ ?_)); done) | fail) rfl) | exact Z.Yd.load rfl Try.isAgg3 (fun _ => Z.cellO (by assumption) (by simp) (by assumption)) | fail "load 1.17") ?_
                      refine Z.yes (s := 19) (b := false) rfl rfl rfl ?_
                      refine Z.le rfl (by exact ⟨rfl, trivial⟩) ?_
                      refine Z.ZO.call rfl rfl (by rfl) rfl rfl Try.call27 rfl (ac_inside c 1 64 _) ?_
                      rintro v1_18 w1_18 ⟨rfl, hy⟩
                      replace hs := hs.call hy
                      clear hy
                      try simp only [List.cons_append, List.nil_append, List.append_nil] at hs
                      refine Z.lb 1 rfl ?_
                      refine Z.yes (s := 19) (b := false) rfl rfl rfl ?_
                      refine Z.l rfl rfl (by rfl) (Z.keepS hs) (Z.Yd.pickF rfl rfl) ?_
                      refine Z.lb 1 rfl ?_
                      refine Z.split (s := 25) rfl (fun hsp25 => ?_) (fun hsp25 => ?_)
                      · first
                          | (exfalso; simp at hsp25 <;> omega)
                          | (
                            refine Z.yes (s := 25) (b := true) rfl hsp25 rfl ?_
                            (try simp at hsp25)
                            refine Z.ls rfl rfl rfl (by rfl) ?_
                            refine Z.ls rfl rfl rfl (by rfl) ?_
                            refine Z.ls rfl rfl rfl (by rfl) ?_
                            refine Z.ls rfl rfl rfl (by rfl) ?_
                            refine Z.l rfl rfl (by rfl) (Z.keepS hs) (Z.Yd.pickT rfl rfl) ?_
                            refine Z.lnil ?_
                            refine Z.only [1, 30] rfl ?_
                            refine Z.nthen ?_
                            refine Z.cond rfl (fun hc1 => ?_) (fun h => absurd h (by first | (simp; done) | (simp; omega)))
                            refine Z.seq ?_
                            refine Z.region ?_
                            refine Z.lb 2 rfl ?_
                            refine Z.lnil ?_
                            refine Z.only [2, 3] rfl ?_
                            refine Z.nthen ?_
                            refine Z.ret ?_
                            repeat (first | refine Z.rthen ?_ | refine Z.rblock ?_ | refine Z.rscope ?_)
                            -- ret#10
                            refine Z.out2 (by exact ⟨rfl, rfl, trivial⟩) ?_
                            exact ⟨_, rfl, rfl, hs.sub (List.nil_sublist _)⟩
                            )
                      · first
                          | (exfalso; simp at hsp25 <;> omega)
                          | (
                            refine Z.yes (s := 25) (b := false) rfl hsp25 rfl ?_
                            (try simp at hsp25)
                            refine Z.l rfl rfl (by rfl) (Z.keepS hs) (Z.Yd.fieldA (m := 4) rfl (by kernel_rfl)) ?_
                            refine Z.l rfl rfl (by rfl) (Z.keepS hs) (by first | exact Z.Yd.load rfl Try.isAgg3 (fun _ => Z.cellB (by first | ((repeat (first | exact List.mem_cons_self | refine List.mem_cons_of_mem _ ?_ | refine List.mem_append_right _ ?_)); done) | fail) rfl) | exact Z.Yd.load rfl Try.isAgg3 (fun _ => Z.cellO (by assumption) (by simp) (by assumption)) | fail "load 1.23") ?_
                            refine Z.yes (s := 25) (b := false) rfl rfl rfl ?_
                            refine Z.le rfl (by exact ⟨rfl, trivial⟩) ?_
                            refine Z.ZO.call rfl rfl (by rfl) rfl rfl Try.call27 rfl (ac_inside x 1 200 _) ?_
                            rintro v1_24 w1_24 ⟨rfl, hy⟩
                            replace hs := hs.call hy
                            clear hy
                            try simp only [List.cons_append, List.nil_append, List.append_nil] at hs
                            refine Z.lb 1 rfl ?_
                            refine Z.yes (s := 25) (b := false) rfl rfl rfl ?_
                            refine Z.l rfl rfl (by rfl) (Z.keepS hs) (Z.Yd.pickF rfl rfl) ?_
                            refine Z.lnil ?_
                            refine Z.only [1, 30] rfl ?_
                            refine Z.nthen ?_
                            refine Z.cond rfl (fun hc1 => ?_) (fun h => absurd h (by first | (simp; done) | (simp; omega)))
                            refine Z.seq ?_
                            refine Z.region ?_
                            refine Z.lb 2 rfl ?_
                            refine Z.lnil ?_
                            refine Z.only [2, 3] rfl ?_
                            refine Z.nthen ?_
                            refine Z.ret ?_
                            repeat (first | refine Z.rthen ?_ | refine Z.rblock ?_ | refine Z.rscope ?_)
                            -- ret#11
                            refine Z.out2 (by exact ⟨rfl, rfl, trivial⟩) ?_
                            exact ⟨_, rfl, rfl, hs.sub (List.nil_sublist _)⟩
                            )
                      )
                )
          · first
              | (exfalso; simp at hsp13 <;> omega)
              | (
                refine Z.yes (s := 13) (b := false) rfl hsp13 rfl ?_
                (try simp at hsp13)
                refine Z.l rfl rfl (by rfl) (Z.keepS hs) (Z.Yd.fieldA (m := 2) rfl (by kernel_rfl)) ?_
                refine Z.l rfl rfl (by rfl) (Z.keepS hs) (by first | exact Z.Yd.load rfl Try.isAgg3 (fun _ => Z.cellB (by first | ((repeat (first | exact List.mem_cons_self | refine List.mem_cons_of_mem _ ?_ | refine List.mem_append_right _ ?_)); done) | fail) rfl) | exact Z.Yd.load rfl Try.isAgg3 (fun _ => Z.cellO (by assumption) (by simp) (by assumption)) | fail "load 1.11") ?_
                refine Z.yes (s := 13) (b := false) rfl rfl rfl ?_
                refine Z.le rfl (by exact ⟨rfl, trivial⟩) ?_
                refine Z.ZO.call rfl rfl (by rfl) rfl rfl Try.call27 rfl (ac_inside n 1 10 _) ?_
                rintro v1_12 w1_12 ⟨rfl, hy⟩
                replace hs := hs.call hy
                clear hy
                try simp only [List.cons_append, List.nil_append, List.append_nil] at hs
                refine Z.lb 1 rfl ?_
                refine Z.yes (s := 13) (b := false) rfl rfl rfl ?_
                refine Z.l rfl rfl (by rfl) (Z.keepS hs) (Z.Yd.pickF rfl rfl) ?_
                refine Z.lb 1 rfl ?_
                refine Z.split (s := 19) rfl (fun hsp19 => ?_) (fun hsp19 => ?_)
                · first
                    | (exfalso; simp at hsp19 <;> omega)
                    | (
                      refine Z.yes (s := 19) (b := true) rfl hsp19 rfl ?_
                      (try simp at hsp19)
                      refine Z.ls rfl rfl rfl (by rfl) ?_
                      refine Z.ls rfl rfl rfl (by rfl) ?_
                      refine Z.ls rfl rfl rfl (by rfl) ?_
                      refine Z.ls rfl rfl rfl (by rfl) ?_
                      refine Z.l rfl rfl (by rfl) (Z.keepS hs) (Z.Yd.pickT rfl rfl) ?_
                      refine Z.lb 1 rfl ?_
                      refine Z.split (s := 25) rfl (fun hsp25 => ?_) (fun hsp25 => ?_)
                      · first
                          | (exfalso; simp at hsp25 <;> omega)
                          | (
                            refine Z.yes (s := 25) (b := true) rfl hsp25 rfl ?_
                            (try simp at hsp25)
                            refine Z.ls rfl rfl rfl (by rfl) ?_
                            refine Z.ls rfl rfl rfl (by rfl) ?_
                            refine Z.ls rfl rfl rfl (by rfl) ?_
                            refine Z.ls rfl rfl rfl (by rfl) ?_
                            refine Z.l rfl rfl (by rfl) (Z.keepS hs) (Z.Yd.pickT rfl rfl) ?_
                            refine Z.lnil ?_
                            refine Z.only [1, 30] rfl ?_
                            refine Z.nthen ?_
                            refine Z.cond rfl (fun hc1 => ?_) (fun h => absurd h (by first | (simp; done) | (simp; omega)))
                            refine Z.seq ?_
                            refine Z.region ?_
                            refine Z.lb 2 rfl ?_
                            refine Z.lnil ?_
                            refine Z.only [2, 3] rfl ?_
                            refine Z.nthen ?_
                            refine Z.ret ?_
                            repeat (first | refine Z.rthen ?_ | refine Z.rblock ?_ | refine Z.rscope ?_)
                            -- ret#12
                            refine Z.out2 (by exact ⟨rfl, rfl, trivial⟩) ?_
                            exact ⟨_, rfl, rfl, hs.sub (List.nil_sublist _)⟩
                            )
                      · first
                          | (exfalso; simp at hsp25 <;> omega)
                          | (
                            refine Z.yes (s := 25) (b := false) rfl hsp25 rfl ?_
                            (try simp at hsp25)
                            refine Z.l rfl rfl (by rfl) (Z.keepS hs) (Z.Yd.fieldA (m := 4) rfl (by kernel_rfl)) ?_
                            refine Z.l rfl rfl (by rfl) (Z.keepS hs) (by first | exact Z.Yd.load rfl Try.isAgg3 (fun _ => Z.cellB (by first | ((repeat (first | exact List.mem_cons_self | refine List.mem_cons_of_mem _ ?_ | refine List.mem_append_right _ ?_)); done) | fail) rfl) | exact Z.Yd.load rfl Try.isAgg3 (fun _ => Z.cellO (by assumption) (by simp) (by assumption)) | fail "load 1.23") ?_
                            refine Z.yes (s := 25) (b := false) rfl rfl rfl ?_
                            refine Z.le rfl (by exact ⟨rfl, trivial⟩) ?_
                            refine Z.ZO.call rfl rfl (by rfl) rfl rfl Try.call27 rfl (ac_inside x 1 200 _) ?_
                            rintro v1_24 w1_24 ⟨rfl, hy⟩
                            replace hs := hs.call hy
                            clear hy
                            try simp only [List.cons_append, List.nil_append, List.append_nil] at hs
                            refine Z.lb 1 rfl ?_
                            refine Z.yes (s := 25) (b := false) rfl rfl rfl ?_
                            refine Z.l rfl rfl (by rfl) (Z.keepS hs) (Z.Yd.pickF rfl rfl) ?_
                            refine Z.lnil ?_
                            refine Z.only [1, 30] rfl ?_
                            refine Z.nthen ?_
                            refine Z.cond rfl (fun hc1 => ?_) (fun h => absurd h (by first | (simp; done) | (simp; omega)))
                            refine Z.seq ?_
                            refine Z.region ?_
                            refine Z.lb 2 rfl ?_
                            refine Z.lnil ?_
                            refine Z.only [2, 3] rfl ?_
                            refine Z.nthen ?_
                            refine Z.ret ?_
                            repeat (first | refine Z.rthen ?_ | refine Z.rblock ?_ | refine Z.rscope ?_)
                            -- ret#13
                            refine Z.out2 (by exact ⟨rfl, rfl, trivial⟩) ?_
                            exact ⟨_, rfl, rfl, hs.sub (List.nil_sublist _)⟩
                            )
                      )
                · first
                    | (exfalso; simp at hsp19 <;> omega)
                    | (
                      refine Z.yes (s := 19) (b := false) rfl hsp19 rfl ?_
                      (try simp at hsp19)
                      refine Z.l rfl rfl (by rfl) (Z.keepS hs) (Z.Yd.fieldA (m := 3) rfl (by kernel_rfl)) ?_
                      refine Z.l rfl rfl (by rfl) (Z.keepS hs) (by first | exact Z.Yd.load rfl Try.isAgg3 (fun _ => Z.cellB (by first | ((repeat (first | exact List.mem_cons_self | refine List.mem_cons_of_mem _ ?_ | refine List.mem_append_right _ ?_)); done) | fail) rfl) | exact Z.Yd.load rfl Try.isAgg3 (fun _ => Z.cellO (by assumption) (by simp) (by assumption)) | fail "load 1.17") ?_
                      refine Z.yes (s := 19) (b := false) rfl rfl rfl ?_
                      refine Z.le rfl (by exact ⟨rfl, trivial⟩) ?_
                      refine Z.ZO.call rfl rfl (by rfl) rfl rfl Try.call27 rfl (ac_inside c 1 64 _) ?_
                      rintro v1_18 w1_18 ⟨rfl, hy⟩
                      replace hs := hs.call hy
                      clear hy
                      try simp only [List.cons_append, List.nil_append, List.append_nil] at hs
                      refine Z.lb 1 rfl ?_
                      refine Z.yes (s := 19) (b := false) rfl rfl rfl ?_
                      refine Z.l rfl rfl (by rfl) (Z.keepS hs) (Z.Yd.pickF rfl rfl) ?_
                      refine Z.lb 1 rfl ?_
                      refine Z.split (s := 25) rfl (fun hsp25 => ?_) (fun hsp25 => ?_)
                      · first
                          | (exfalso; simp at hsp25 <;> omega)
                          | (
                            refine Z.yes (s := 25) (b := true) rfl hsp25 rfl ?_
                            (try simp at hsp25)
                            refine Z.ls rfl rfl rfl (by rfl) ?_
                            refine Z.ls rfl rfl rfl (by rfl) ?_
                            refine Z.ls rfl rfl rfl (by rfl) ?_
                            refine Z.ls rfl rfl rfl (by rfl) ?_
                            refine Z.l rfl rfl (by rfl) (Z.keepS hs) (Z.Yd.pickT rfl rfl) ?_
                            refine Z.lnil ?_
                            refine Z.only [1, 30] rfl ?_
                            refine Z.nthen ?_
                            refine Z.cond rfl (fun hc1 => ?_) (fun h => absurd h (by first | (simp; done) | (simp; omega)))
                            refine Z.seq ?_
                            refine Z.region ?_
                            refine Z.lb 2 rfl ?_
                            refine Z.lnil ?_
                            refine Z.only [2, 3] rfl ?_
                            refine Z.nthen ?_
                            refine Z.ret ?_
                            repeat (first | refine Z.rthen ?_ | refine Z.rblock ?_ | refine Z.rscope ?_)
                            -- ret#14
                            refine Z.out2 (by exact ⟨rfl, rfl, trivial⟩) ?_
                            exact ⟨_, rfl, rfl, hs.sub (List.nil_sublist _)⟩
                            )
                      · first
                          | (exfalso; simp at hsp25 <;> omega)
                          | (
                            refine Z.yes (s := 25) (b := false) rfl hsp25 rfl ?_
                            (try simp at hsp25)
                            refine Z.l rfl rfl (by rfl) (Z.keepS hs) (Z.Yd.fieldA (m := 4) rfl (by kernel_rfl)) ?_
                            refine Z.l rfl rfl (by rfl) (Z.keepS hs) (by first | exact Z.Yd.load rfl Try.isAgg3 (fun _ => Z.cellB (by first | ((repeat (first | exact List.mem_cons_self | refine List.mem_cons_of_mem _ ?_ | refine List.mem_append_right _ ?_)); done) | fail) rfl) | exact Z.Yd.load rfl Try.isAgg3 (fun _ => Z.cellO (by assumption) (by simp) (by assumption)) | fail "load 1.23") ?_
                            refine Z.yes (s := 25) (b := false) rfl rfl rfl ?_
                            refine Z.le rfl (by exact ⟨rfl, trivial⟩) ?_
                            refine Z.ZO.call rfl rfl (by rfl) rfl rfl Try.call27 rfl (ac_inside x 1 200 _) ?_
                            rintro v1_24 w1_24 ⟨rfl, hy⟩
                            replace hs := hs.call hy
                            clear hy
                            try simp only [List.cons_append, List.nil_append, List.append_nil] at hs
                            refine Z.lb 1 rfl ?_
                            refine Z.yes (s := 25) (b := false) rfl rfl rfl ?_
                            refine Z.l rfl rfl (by rfl) (Z.keepS hs) (Z.Yd.pickF rfl rfl) ?_
                            refine Z.lnil ?_
                            refine Z.only [1, 30] rfl ?_
                            refine Z.nthen ?_
                            refine Z.cond rfl (fun hc1 => ?_) (fun h => absurd h (by first | (simp; done) | (simp; omega)))
                            refine Z.seq ?_
                            refine Z.region ?_
                            refine Z.lb 2 rfl ?_
                            refine Z.lnil ?_
                            refine Z.only [2, 3] rfl ?_
                            refine Z.nthen ?_
                            refine Z.ret ?_
                            repeat (first | refine Z.rthen ?_ | refine Z.rblock ?_ | refine Z.rscope ?_)
                            -- ret#15
                            refine Z.out2 (by exact ⟨rfl, rfl, trivial⟩) ?_
                            exact ⟨_, rfl, rfl, hs.sub (List.nil_sublist _)⟩
                            )
                      )
                )
          )
end Go.Proofs.Ytjgfooakcljddaa

/- Random access of a handset: the document's. -/
namespace Go.Proofs.Ytjgfooakcljddaa
open Go.RowKit
set_option linter.unusedSimpArgs false
set_option linter.unusedVariables false
--newlaws

end Go.Proofs.Ytjgfooakcljddaa

/- Random access of a handset: the document's messages. -/
namespace Go.Proofs.Ytjgfooakcljddaa
open Go.RowKit
set_option linter.unusedSimpArgs false
set_option linter.unusedVariables false
--newlaws

theorem acr_same (c1 c2 : Int) (A B : Option Addr) (n c m d : Nat) (l k : List Int) (w : World) (hx : Sl w A (ints .u8 l)) (hy : Sl w B (ints .u8 k)) (hl : l.length = n) (hk : k.length = m) (hb : ∀ x ∈ l, 0 ≤ x ∧ x < 256) (hc : ∀ x ∈ k, 0 ≤ x ∧ x < 256) :
    Calls Try.prog 26 #[.agg #[.int .i64 c1, .slice A n c], .agg #[.int .i64 c2, .slice B m d]] w (SX.Ret fun v w' => v = .bool (decide (c1 = c2 ∧ l = k)) ∧ SX.St w [] w' []) := by
  have hs := SX.St.start w
  have he := Z.str_eq hb hc
  refine Z.enter Try.func26 rfl Try.ntmps26 rfl rfl ?_
  refine Z.seq ?_
  refine Z.region ?_
  refine Z.le rfl trivial ?_
  refine Z.ZO.box rfl rfl (by rfl) rfl rfl hs ?_
  clear hs; intro g2 w2 hs
  refine Z.le rfl trivial ?_
  refine Z.ZO.box rfl rfl (by rfl) rfl rfl hs ?_
  clear hs; intro g3 w3 hs
  refine Z.lb 1 rfl ?_
  refine Z.lnil ?_
  refine Z.only [2, 3] rfl ?_
  refine Z.nthen ?_
  refine Z.seq ?_
  refine Z.region ?_
  refine Z.l rfl rfl (by rfl) (Z.keepS hs) (Z.Yd.fieldA (m := 0) rfl (by kernel_rfl)) ?_
  refine Z.l rfl rfl (by rfl) (Z.keepS hs) (by first | exact Z.Yd.load rfl Try.isAgg3 (fun _ => Z.cellB (by first | ((repeat (first | exact List.mem_cons_self | refine List.mem_cons_of_mem _ ?_ | refine List.mem_append_right _ ?_)); done) | fail) rfl) | exact Z.Yd.load rfl Try.isAgg3 (fun _ => Z.cellO (by assumption) (by simp) (by assumption)) | fail "load 1.1") ?_
  refine Z.l rfl rfl (by rfl) (Z.keepS hs) (Z.Yd.fieldA (m := 0) rfl (by kernel_rfl)) ?_
  refine Z.l rfl rfl (by rfl) (Z.keepS hs) (by first | exact Z.Yd.load rfl Try.isAgg3 (fun _ => Z.cellB (by first | ((repeat (first | exact List.mem_cons_self | refine List.mem_cons_of_mem _ ?_ | refine List.mem_append_right _ ?_)); done) | fail) rfl) | exact Z.Yd.load rfl Try.isAgg3 (fun _ => Z.cellO (by assumption) (by simp) (by assumption)) | fail "load 1.3") ?_
  refine Z.lb 2 rfl ?_
  refine Z.l rfl rfl (by rfl) (Z.keepS hs) (Z.Yd.fieldA (m := 1) rfl (by kernel_rfl)) ?_
  refine Z.l rfl rfl (by rfl) (Z.keepS hs) (by first | exact Z.Yd.load rfl Try.isAgg38 (fun _ => Z.cellB (by first | ((repeat (first | exact List.mem_cons_self | refine List.mem_cons_of_mem _ ?_ | refine List.mem_append_right _ ?_)); done) | fail) rfl) | exact Z.Yd.load rfl Try.isAgg38 (fun _ => Z.cellO (by assumption) (by simp) (by assumption)) | fail "load 1.7") ?_
  refine Z.l rfl rfl (by rfl) (Z.keepS hs) (Z.Yd.b2s rfl Try.underlying38 Try.underlying5 Try.underlying9 hl (fun W hW => by obtain ⟨R, hR, _⟩ := hW; exact hx.st hR)) ?_
  refine Z.l rfl rfl (by rfl) (Z.keepS hs) (Z.Yd.fieldA (m := 1) rfl (by kernel_rfl)) ?_
  refine Z.l rfl rfl (by rfl) (Z.keepS hs) (by first | exact Z.Yd.load rfl Try.isAgg38 (fun _ => Z.cellB (by first | ((repeat (first | exact List.mem_cons_self | refine List.mem_cons_of_mem _ ?_ | refine List.mem_append_right _ ?_)); done) | fail) rfl) | exact Z.Yd.load rfl Try.isAgg38 (fun _ => Z.cellO (by assumption) (by simp) (by assumption)) | fail "load 1.10") ?_
  refine Z.l rfl rfl (by rfl) (Z.keepS hs) (Z.Yd.b2s rfl Try.underlying38 Try.underlying5 Try.underlying9 hk (fun W hW => by obtain ⟨R, hR, _⟩ := hW; exact hy.st hR)) ?_
  refine Z.l rfl rfl (by rfl) (Z.keepS hs) (Z.Yd.strEq rfl rfl) ?_
  refine Z.lb 2 rfl ?_
  refine Z.lnil ?_
  refine Z.only [4] rfl ?_
  refine Z.nthen ?_
  refine Z.ret ?_
  -- ret#0
  refine Z.out1 (by exact ⟨rfl, trivial⟩) ?_
  exact ⟨_, rfl, by rw [he]; congr 1; rw [Bool.eq_iff_iff]; simp, hs.sub (List.nil_sublist _)⟩
end Go.Proofs.Ytjgfooakcljddaa

/- Random access of a handset: what can be seen agrees; one step. -/
namespace Go.Proofs.Ytjgfooakcljddaa
open Go.RowKit
set_option linter.unusedSimpArgs false
set_option linter.unusedVariables false
--newlaws

theorem AcV.ok.start {m : AcV} (h : m.ok) (t : Int) : (startV m t).1.ok := by
  unfold startV
  split
  · rename_i ht
    obtain ⟨h1, h2, h3, h4, h5, h6, h7, h8, h9, h10⟩ := h.tick ht
    split
    · exact ⟨h1, by simp only; omega, h3, by simp only; omega, h5, h6, by simp only; have := h1.2.2.2.2; omega, by simp only; omega, h9, fun _ => by simp only; have := h1.2.2.2.2; omega⟩
    · exact ⟨h1, h2, h3, h4, h5, h6, h7, h8, h9, h10⟩
  · exact h
theorem AcV.ok.send {m : AcV} (h : m.ok) (t d : Int) : (sendV m t d).1.ok := by
  unfold sendV
  split
  · rename_i ht
    have hk := h.tick ht.1
    split
    · rename_i h0
      split
      · exact hk
      · obtain ⟨h1, h2, h3, h4, h5, h6, h7, h8, h9, h10⟩ := hk
        have hw := h1.2.2.1
        have hg := h10 h0
        exact ⟨h1, by simp only; omega, h3, by simp only; omega, by simp only; omega, by simp only; omega, by simp only; omega, h8, h9, fun h => by simp at h⟩
    · exact hk
  · exact h
theorem AcV.ok.answer {m : AcV} (h : m.ok) (t p r k : Int) : (answerV m t p r k).1.ok := by
  unfold answerV
  split
  · rename_i ht
    have hk := h.tick ht.1
    have hr := ht.2
    unfold okR at hr
    split
    · split
      · split
        · exact (hk.bound hr.2.2).fail
        · obtain ⟨h1, h2, h3, h4, h5, h6, h7, h8, h9, h10⟩ := hk
          have hw := h1.2.2.2.1
          exact ⟨h1, by simp only; omega, h3, by simp only; omega, h5, h6, h7, h8, by simp only; omega, fun h => by simp at h⟩
      · exact hk
    · exact hk
  · exact h
theorem AcV.ok.resolve {m : AcV} (h : m.ok) (t lc : Int) (l : List Int) : (resolveV m t lc l).1.ok := by
  unfold resolveV
  split
  · rename_i ht
    have hk := h.tick ht
    split
    · split
      · split
        · obtain ⟨h1, h2, h3, h4, h5, h6, h7, h8, h9, h10⟩ := hk
          exact ⟨h1, by simp only; omega, h3, by simp only; omega, h5, h6, h7, h8, h9, fun h => by simp at h⟩
        · exact hk.fail
      · exact hk
    · exact h
  · exact h
theorem ac_Message3 (g : Nat) (m : AcV) (w : World) (hc : Cel w g m.cells) (hf : m.cfg) (h3 : m.st = 3) :
    Calls Try.prog 15 #[.pointer (some ⟨g, 0, none⟩)] w (SX.Ret fun v w' => ∃ u, v = .tuple #[u, .int .i64 0] ∧ OwnPt (msgC m) (msgL m) u w w') := by
  have h := ac_Message g m w hc hf
  simpa only [if_pos h3] using h
structure AxV where
  k : Int
  t : Int
  d : Int
  p : Int
  r : Int
  b : Int
  lc : Int
  A : Option Addr
  c : Nat
  l : List Int
def AxV.cells (x : AxV) : List Value := [.int .i64 x.k, .int .i64 x.t, .int .i64 x.d, .int .i64 x.p, .int .i64 x.r, .int .i64 x.b, .int .i64 x.lc, .slice x.A x.l.length x.c]
structure GoodX (w : World) (M : List Nat) (x : AxV) : Prop where
  sx : Sx w M x.A (ints .u8 x.l)
  by8 : Byts x.l
  len : x.l.length ≤ 140737488351232
end Go.Proofs.Ytjgfooakcljddaa

/- Random access of a handset: a step of each kind, on both sides. -/
namespace Go.Proofs.Ytjgfooakcljddaa
open Go.RowKit
set_option linter.unusedSimpArgs false
set_option linter.unusedVariables false
--newlaws

end Go.Proofs.Ytjgfooakcljddaa

/- Random access of a handset: the examples of the chapter. -/
namespace Go.Proofs.Ytjgfooakcljddaa
open Go.RowKit
set_option linter.unusedSimpArgs false
set_option linter.unusedVariables false
--newlaws

theorem ac_newT (i r n c x : Int) (w : World) (hi : 0 ≤ i) (h : (newV i r n c x).cfg) : Calls Try.prog 9 #[.agg #[.int .u64 i, .int .i64 r, .int .i64 n, .int .i64 c, .int .i64 x]] w (SX.Ret fun v w' => ∃ g, v = .tuple #[.pointer (some ⟨g, 0, none⟩), .int .i64 0] ∧ SX.St w [] w' [SX.Ent.blk g 64 (newV i r n c x).cells.toArray]) := by
  have h1 := ac_new i r n c x w hi
  simpa only [if_pos h] using h1
theorem ac_newF (i r n c x : Int) (w : World) (hi : 0 ≤ i) (h : ¬ (newV i r n c x).cfg) : Calls Try.prog 9 #[.agg #[.int .u64 i, .int .i64 r, .int .i64 n, .int .i64 c, .int .i64 x]] w (SX.Ret fun v w' => v = .tuple #[.pointer none, .int .i64 2] ∧ SX.St w [] w' []) := by
  have h1 := ac_new i r n c x w hi
  simpa only [if_neg h] using h1
def kA0 : AcV := newV 5 0 2 8 2
def kA1 : AcV := (startV kA0 10).1
def kA2 : AcV := (sendV kA1 10 70).1
def kA3 : AcV := (answerV kA2 12 6 9 0).1
def kA4 : AcV := (answerV kA3 13 7 9 0).1
def kA5 : AcV := (answerV kA4 14 6 9 0).1
def kA6 : AcV := (resolveV kA5 20 28 [0, 0, 0, 0, 0, 5]).1
set_option maxHeartbeats 1000000 in
set_option maxRecDepth 100000 in
theorem ac_known (w : World) : Calls Try.prog 10 #[] w (SX.Ret fun v w' => v = .bool true ∧ SX.St w [] w' []) := by
  have hs := SX.St.start w
  have o0 : kA0.ok := newV_ok (by decide +kernel)
  have o1 : kA1.ok := o0.start 10
  have o2 : kA2.ok := o1.send 10 70
  have o3 : kA3.ok := o2.answer 12 6 9 0
  have o4 : kA4.ok := o3.answer 13 7 9 0
  have o5 : kA5.ok := o4.answer 14 6 9 0
  have o6 : kA6.ok := o5.resolve 20 28 [0, 0, 0, 0, 0, 5]
  have q1 : (startV kA0 10).2 = 0 := by decide +kernel
  have q2 : (sendV kA1 10 70).2.1 = 6 := by decide +kernel
  have q3 : (sendV kA1 10 70).2.2 = 0 := by decide +kernel
  have q4 : (answerV kA2 12 6 9 0).2.1 = false := by decide +kernel
  have q5 : (answerV kA2 12 6 9 0).2.2 = 8 := by decide +kernel
  have q6 : (answerV kA3 13 7 9 0).2.1 = false := by decide +kernel
  have q7 : (answerV kA3 13 7 9 0).2.2 = 0 := by decide +kernel
  have q8 : (answerV kA4 14 6 9 0).2.1 = true := by decide +kernel
  have q9 : (answerV kA4 14 6 9 0).2.2 = 0 := by decide +kernel
  have q10 : (resolveV kA5 20 28 [0, 0, 0, 0, 0, 5]).2.1 = true := by decide +kernel
  have q11 : (resolveV kA5 20 28 [0, 0, 0, 0, 0, 5]).2.2 = 0 := by decide +kernel
  have q12 : useV kA6 = 9 := by decide +kernel
  have q13 : acB 5 1 10 = 3 := by decide +kernel
  have q14 : acB 5 1 0 = 0 := by decide +kernel
  have q15 : kA5.st = 3 := by decide +kernel
  have q16 : msgC kA5 = 28 := by decide +kernel
  have q17 : msgL kA5 = [0, 0, 0, 0, 0, 5] := by decide +kernel
  have hb5 : Byts [0, 0, 0, 0, 0, 5] := by8 (by decide)
  refine Z.enter Try.func10 rfl Try.ntmps10 rfl rfl ?_
  refine Z.seq ?_
  refine Z.region ?_
  refine Z.lb 1 rfl ?_
  refine Z.lnil ?_
  refine Z.only [] rfl ?_
  refine Z.nthen ?_
  refine Z.seq ?_
  refine Z.region ?_
  refine Z.l rfl rfl (by rfl) (Z.keepS hs) (Z.Yd.buildL [(0, 1), (1, 1), (2, 1), (3, 1), (4, 1)] [.int .u64 0, .int .i64 0, .int .i64 0, .int .i64 0, .int .i64 0] rfl rfl (by intro w; kernel_rfl)) ?_
  refine Z.le rfl trivial ?_
  refine Z.ZO.call rfl rfl (by rfl) rfl rfl Try.call9 rfl (ac_newT 5 0 2 8 2 _ (by decide) (by decide +kernel)) ?_
  rintro v1_1 w1_1 ⟨ga, rfl, hy⟩
  replace hs := hs.call hy
  clear hy
  try simp only [List.cons_append, List.nil_append, List.append_nil] at hs
  replace hs : SX.St w [] _ [SX.Ent.blk ga 64 kA0.cells.toArray] := hs
  refine Z.lb 5 rfl ?_
  refine Z.lnil ?_
  refine Z.only [1, 2] rfl ?_
  refine Z.nthen ?_
  refine Z.seq ?_
  refine Z.seq ?_
  refine Z.region ?_
  refine Z.lb 3 rfl ?_
  refine Z.yes (s := 23) (b := false) rfl ((by simp)) rfl ?_
  refine Z.lb 1 rfl ?_
  refine Z.yes (s := 23) (b := false) rfl rfl rfl ?_
  refine Z.le rfl (by exact ⟨rfl, trivial⟩) ?_
  refine Z.ZO.call rfl rfl (by rfl) rfl rfl Try.call11 rfl (ac_start ga _ kA0 10 _ hs.all o0) ?_
  rintro v2_4 w2_4 ⟨rfl, hz⟩
  replace hs : SX.St w [] _ [SX.Ent.blk ga 64 kA1.cells.toArray] := hs.regainAll hz
  rw [q1]
  refine Z.lb 1 rfl ?_
  refine Z.yes (s := 23) (b := false) rfl rfl rfl ?_
  refine Z.l rfl rfl (by rfl) (Z.keepS hs) (Z.Yd.pickF rfl rfl) ?_
  refine Z.lnil ?_
  refine Z.only [1, 27] rfl ?_
  refine Z.nthen ?_
  refine Z.cond rfl (fun h => absurd h (by simp)) (fun hc2 => ?_)
  refine Z.skip ?_
  refine Z.nthen ?_
  refine Z.seq ?_
  refine Z.region ?_
  refine Z.lb 1 rfl ?_
  refine Z.le rfl trivial ?_
  refine Z.ZO.call rfl rfl (by rfl) rfl rfl Try.call12 rfl (ac_send ga _ kA1 10 70 _ hs.all o1) ?_
  rintro v4_1 w4_1 ⟨rfl, hz⟩
  replace hs : SX.St w [] _ [SX.Ent.blk ga 64 kA2.cells.toArray] := hs.regainAll hz
  rw [q2, q3]
  refine Z.lb 5 rfl ?_
  refine Z.lnil ?_
  refine Z.only [1, 3, 4] rfl ?_
  refine Z.nthen ?_
  refine Z.seq ?_
  refine Z.region ?_
  refine Z.lb 1 rfl ?_
  refine Z.l rfl rfl (by rfl) (Z.keepS hs) (Z.Yd.buildL [(0, 1), (1, 1), (2, 1)] [.int .i64 0, .int .i64 0, .int .i64 0] rfl rfl (by intro w; kernel_rfl)) ?_
  refine Z.le rfl trivial ?_
  refine Z.ZO.call rfl rfl (by rfl) rfl rfl Try.call13 rfl (ac_answer ga _ kA2 12 6 9 0 _ hs.all o2) ?_
  rintro v5_2 w5_2 ⟨rfl, hz⟩
  replace hs : SX.St w [] _ [SX.Ent.blk ga 64 kA3.cells.toArray] := hs.regainAll hz
  rw [q4, q5]
  refine Z.lb 5 rfl ?_
  refine Z.lnil ?_
  refine Z.only [1, 3, 4, 5, 6] rfl ?_
  refine Z.nthen ?_
  refine Z.seq ?_
  refine Z.region ?_
  refine Z.lb 1 rfl ?_
  refine Z.l rfl rfl (by rfl) (Z.keepS hs) (Z.Yd.buildL [(0, 1), (1, 1), (2, 1)] [.int .i64 0, .int .i64 0, .int .i64 0] rfl rfl (by intro w; kernel_rfl)) ?_
  refine Z.le rfl trivial ?_
  refine Z.ZO.call rfl rfl (by rfl) rfl rfl Try.call13 rfl (ac_answer ga _ kA3 13 7 9 0 _ hs.all o3) ?_
  rintro v6_2 w6_2 ⟨rfl, hz⟩
  replace hs : SX.St w [] _ [SX.Ent.blk ga 64 kA4.cells.toArray] := hs.regainAll hz
  rw [q6, q7]
  refine Z.lb 5 rfl ?_
  refine Z.lnil ?_
  refine Z.only [1, 3, 4, 5, 6, 7, 8] rfl ?_
  refine Z.nthen ?_
  refine Z.seq ?_
  refine Z.region ?_
  refine Z.lb 1 rfl ?_
  refine Z.l rfl rfl (by rfl) (Z.keepS hs) (Z.Yd.buildL [(0, 1), (1, 1), (2, 1)] [.int .i64 0, .int .i64 0, .int .i64 0] rfl rfl (by intro w; kernel_rfl)) ?_
  refine Z.le rfl trivial ?_
  refine Z.ZO.call rfl rfl (by rfl) rfl rfl Try.call13 rfl (ac_answer ga _ kA4 14 6 9 0 _ hs.all o4) ?_
  rintro v7_2 w7_2 ⟨rfl, hz⟩
  replace hs : SX.St w [] _ [SX.Ent.blk ga 64 kA5.cells.toArray] := hs.regainAll hz
  rw [q8, q9]
  refine Z.lb 5 rfl ?_
  refine Z.lnil ?_
  refine Z.only [1, 3, 4, 5, 6, 7, 8, 9, 10] rfl ?_
  refine Z.nthen ?_
  refine Z.seq ?_
  refine Z.region ?_
  refine Z.lb 1 rfl ?_
  refine Z.le rfl trivial ?_
  refine Z.ZO.call rfl rfl (by rfl) rfl rfl Try.call15 rfl (ac_Message3 ga kA5 _ (hs.celOf (by first | ((repeat (first | exact List.mem_cons_self | refine List.mem_cons_of_mem _ ?_ | refine List.mem_append_right _ ?_)); done) | fail)) o5.cfg q15) ?_
  rintro v8_1 w8_1 ⟨u, rfl, Bm, cm, com, rfl, hy⟩
  replace hs := hs.call hy
  clear hy
  try simp only [List.cons_append, List.nil_append, List.append_nil] at hs
  rw [q16, q17]
  rw [q17] at hs
  refine Z.lb 3 rfl ?_
  refine Z.le rfl trivial ?_
  refine Z.ZO.alloc rfl rfl (by rfl) Try.zeroValue40 rfl hs ?_
  clear hs; intro g11 w11 hs
  refine Z.le rfl trivial ?_
  first | refine Z.ZO.storeA rfl rfl hs rfl rfl (by kernel_rfl) (by first | (simp [Value.oneCell']; done) | (refine Z.all_one ?_; assumption)) (by first | exact SX.at0 | exact SX.at1 | exact SX.at2 | exact SX.at3 | exact SX.at4 | exact SX.at5 | exact Z.at6 | exact Z.at7 | exact Z.at8 | exact Z.at9 | exact Z.at10 | exact Z.at11 | exact Z.at12) (by rfl) ?_ | refine Z.ZO.storeP rfl rfl hs rfl rfl (by kernel_rfl) (by first | (simp [Value.oneCell']; done) | (refine Z.all_one ?_; assumption)) (by first | exact SX.at0 | exact SX.at1 | exact SX.at2 | exact SX.at3 | exact SX.at4 | exact SX.at5 | exact Z.at6 | exact Z.at7 | exact Z.at8 | exact Z.at9 | exact Z.at10 | exact Z.at11 | exact Z.at12) (by first | decide | (simp; done) | (simp; omega)) ?_ | refine Z.ZO.storePR rfl rfl hs rfl rfl (by kernel_rfl) (by first | (simp [Value.oneCell']; done) | (refine Z.all_one ?_; assumption)) (by first | exact SX.at0 | exact SX.at1 | exact SX.at2 | exact SX.at3 | exact SX.at4 | exact SX.at5 | exact Z.at6 | exact Z.at7 | exact Z.at8 | exact Z.at9 | exact Z.at10 | exact Z.at11 | exact Z.at12) (by first | decide | (simp; done) | (simp; omega)) ?_
  clear hs; intro ws hs
  simp only [Nat.zero_add, Nat.add_zero, Nat.reduceAdd, Int.reduceToNat, Nat.reduceMul, List.set_cons_zero, List.set_cons_succ, List.setIfInBounds_toArray] at hs
  try simp only [Z.putL, Nat.zero_add] at hs
  refine Z.lb 1 rfl ?_
  refine Z.lnil ?_
  refine Z.only [1, 3, 4, 5, 6, 7, 8, 9, 10, 11, 12] rfl ?_
  refine Z.nthen ?_
  refine Z.seq ?_
  refine Z.region ?_
  refine Z.le rfl trivial ?_
  refine Z.ZO.litL (T' := 5) [(0, 1), (1, 1), (2, 1), (3, 1), (4, 1), (5, 1)] [.int .u8 0, .int .u8 0, .int .u8 0, .int .u8 0, .int .u8 0, .int .u8 0] rfl rfl (by rfl) rfl rfl (by intro W; kernel_rfl) hs ?_
  clear hs; intro g56 w56 hs
  refine Z.l rfl rfl (by rfl) (Z.keepS hs) (Z.Yd.buildL [(0, 1), (1, 1)] [.int .i64 0, .slice none 0 0] rfl rfl (by intro w; kernel_rfl)) ?_
  refine Z.le rfl trivial ?_
  refine Z.ZO.alloc rfl rfl (by rfl) Try.zeroValue40 rfl hs ?_
  clear hs; intro g13 w13 hs
  refine Z.le rfl trivial ?_
  first | refine Z.ZO.storeA rfl rfl hs rfl rfl (by kernel_rfl) (by first | (simp [Value.oneCell']; done) | (refine Z.all_one ?_; assumption)) (by first | exact SX.at0 | exact SX.at1 | exact SX.at2 | exact SX.at3 | exact SX.at4 | exact SX.at5 | exact Z.at6 | exact Z.at7 | exact Z.at8 | exact Z.at9 | exact Z.at10 | exact Z.at11 | exact Z.at12) (by rfl) ?_ | refine Z.ZO.storeP rfl rfl hs rfl rfl (by kernel_rfl) (by first | (simp [Value.oneCell']; done) | (refine Z.all_one ?_; assumption)) (by first | exact SX.at0 | exact SX.at1 | exact SX.at2 | exact SX.at3 | exact SX.at4 | exact SX.at5 | exact Z.at6 | exact Z.at7 | exact Z.at8 | exact Z.at9 | exact Z.at10 | exact Z.at11 | exact Z.at12) (by first | decide | (simp; done) | (simp; omega)) ?_ | refine Z.ZO.storePR rfl rfl hs rfl rfl (by kernel_rfl) (by first | (simp [Value.oneCell']; done) | (refine Z.all_one ?_; assumption)) (by first | exact SX.at0 | exact SX.at1 | exact SX.at2 | exact SX.at3 | exact SX.at4 | exact SX.at5 | exact Z.at6 | exact Z.at7 | exact Z.at8 | exact Z.at9 | exact Z.at10 | exact Z.at11 | exact Z.at12) (by first | decide | (simp; done) | (simp; omega)) ?_
  clear hs; intro ws hs
  simp only [Nat.zero_add, Nat.add_zero, Nat.reduceAdd, Int.reduceToNat, Nat.reduceMul, List.set_cons_zero, List.set_cons_succ, List.setIfInBounds_toArray] at hs
  try simp only [Z.putL, Nat.zero_add] at hs
  refine Z.lnil ?_
  refine Z.only [1, 3, 4, 5, 6, 7, 8, 9, 10, 11, 12, 13] rfl ?_
  refine Z.nthen ?_
  refine Z.seq ?_
  refine Z.region ?_
  refine Z.lb 1 rfl ?_
  refine Z.l rfl rfl (by rfl) (Z.keepS hs) (by first | exact Z.Yd.loadA _ rfl Try.isAgg40 (fun _ => Z.cellsB (by first | ((repeat (first | exact List.mem_cons_self | refine List.mem_cons_of_mem _ ?_ | refine List.mem_append_right _ ?_)); done) | fail)) (by exact Try.sizeOf40) | fail "load 10.1") ?_
  replace hs : SX.St w [] _ ([SX.Ent.blk ga 64 kA5.cells.toArray] ++ [SX.Ent.blk g56 _ _, _, _, _]) := hs.sel [4, 1, 0, 2, 3] (by decide)
  refine Z.le rfl trivial ?_
  refine Z.ZO.call rfl rfl (by rfl) rfl rfl Try.call16 rfl (ac_resolve ga _ kA5 20 28 _ 6 6 [0, 0, 0, 0, 0, 5] _ hs.lend o5 (by have h0 := Z.blk_lentj hs (j := 0) rfl; exact h0) rfl (by decide) hb5) ?_
  rintro v10_2 w10_2 ⟨rfl, hz⟩
  replace hs := hs.regain hz
  replace hs : SX.St w [] _ [SX.Ent.blk ga 64 kA6.cells.toArray, _, _, _, _] := hs
  rw [q10, q11]
  refine Z.lb 5 rfl ?_
  refine Z.lnil ?_
  refine Z.only [1, 3, 4, 5, 6, 7, 8, 9, 10, 11, 12, 13, 14, 15] rfl ?_
  refine Z.nthen ?_
  refine Z.seq ?_
  refine Z.region ?_
  refine Z.lb 30 rfl ?_
  refine Z.yes (s := 93) (b := true) rfl ((by simp)) rfl ?_
  refine Z.l rfl rfl (by rfl) (Z.keepS hs) (by first | exact Z.Yd.loadA _ rfl Try.isAgg40 (fun _ => Z.cellsB (by first | ((repeat (first | exact List.mem_cons_self | refine List.mem_cons_of_mem _ ?_ | refine List.mem_append_right _ ?_)); done) | fail)) (by exact Try.sizeOf40) | fail "load 11.30") ?_
  refine Z.l rfl rfl (by rfl) (Z.keepS hs) (by first | exact Z.Yd.loadA _ rfl Try.isAgg40 (fun _ => Z.cellsB (by first | ((repeat (first | exact List.mem_cons_self | refine List.mem_cons_of_mem _ ?_ | refine List.mem_append_right _ ?_)); done) | fail)) (by exact Try.sizeOf40) | fail "load 11.31") ?_
  refine Z.yes (s := 93) (b := true) rfl rfl rfl ?_
  refine Z.le rfl (by exact ⟨rfl, trivial⟩) ?_
  refine Z.ZO.call rfl rfl (by rfl) rfl rfl Try.call26 rfl (acr_same 28 28 Bm _ _ _ _ _ [0, 0, 0, 0, 0, 5] [0, 0, 0, 0, 0, 5] _ (hs.slm (A := Bm) (by first | ((repeat (first | exact List.mem_cons_self | refine List.mem_cons_of_mem _ ?_ | refine List.mem_append_right _ ?_)); done) | fail)) (by have h0 := hs.blkSl (g := g56) (by first | ((repeat (first | exact List.mem_cons_self | refine List.mem_cons_of_mem _ ?_ | refine List.mem_append_right _ ?_)); done) | fail); exact h0) rfl rfl hb5 hb5) ?_
  rintro v11_32 w11_32 ⟨rfl, hy⟩
  replace hs := hs.call hy
  clear hy
  try simp only [List.cons_append, List.nil_append, List.append_nil] at hs
  refine Z.l rfl rfl (by rfl) (Z.keepS hs) (Z.Yd.pickT rfl rfl) ?_
  refine Z.lb 12 rfl ?_
  refine Z.yes (s := 109) (b := true) rfl ((by simp)) rfl ?_
  refine Z.lb 1 rfl ?_
  refine Z.yes (s := 109) (b := true) rfl rfl rfl ?_
  refine Z.le rfl (by exact ⟨rfl, trivial⟩) ?_
  refine Z.ZO.call rfl rfl (by rfl) rfl rfl Try.call14 rfl (ac_RNTI ga kA6 _ (hs.celOf (by first | ((repeat (first | exact List.mem_cons_self | refine List.mem_cons_of_mem _ ?_ | refine List.mem_append_right _ ?_)); done) | fail)) o6.cfg) ?_
  rintro v11_47 w11_47 ⟨rfl, hy⟩
  replace hs := hs.call hy
  clear hy
  try simp only [List.cons_append, List.nil_append, List.append_nil] at hs
  rw [q12]
  refine Z.lb 1 rfl ?_
  refine Z.yes (s := 109) (b := true) rfl rfl rfl ?_
  refine Z.l rfl rfl (by rfl) (Z.keepS hs) (Z.Yd.pickT rfl rfl) ?_
  refine Z.lb 1 rfl ?_
  refine Z.yes (s := 114) (b := true) rfl ((by simp)) rfl ?_
  refine Z.le rfl (by exact ⟨rfl, trivial⟩) ?_
  refine Z.ZO.call rfl rfl (by rfl) rfl rfl Try.call28 rfl (ac_backoff 5 1 10 _ (by decide)) ?_
  rintro v11_51 w11_51 ⟨rfl, hy⟩
  replace hs := hs.call hy
  clear hy
  try simp only [List.cons_append, List.nil_append, List.append_nil] at hs
  rw [q13]
  refine Z.lb 1 rfl ?_
  refine Z.yes (s := 114) (b := true) rfl rfl rfl ?_
  refine Z.l rfl rfl (by rfl) (Z.keepS hs) (Z.Yd.pickT rfl rfl) ?_
  refine Z.lb 1 rfl ?_
  refine Z.yes (s := 118) (b := true) rfl ((by simp)) rfl ?_
  refine Z.le rfl (by exact ⟨rfl, trivial⟩) ?_
  refine Z.ZO.call rfl rfl (by rfl) rfl rfl Try.call28 rfl (ac_backoff 5 1 0 _ (by decide)) ?_
  rintro v11_55 w11_55 ⟨rfl, hy⟩
  replace hs := hs.call hy
  clear hy
  try simp only [List.cons_append, List.nil_append, List.append_nil] at hs
  rw [q14]
  refine Z.lb 1 rfl ?_
  refine Z.yes (s := 118) (b := true) rfl rfl rfl ?_
  refine Z.l rfl rfl (by rfl) (Z.keepS hs) (Z.Yd.pickT rfl rfl) ?_
  refine Z.lb 1 rfl ?_
  refine Z.lnil ?_
  refine Z.only [0] rfl ?_
  refine Z.nthen ?_
  refine Z.ret ?_
  -- ret#0
  refine Z.out1 (by exact ⟨rfl, trivial⟩) ?_
  exact ⟨_, rfl, by simp, hs.sub (List.nil_sublist _)⟩
end Go.Proofs.Ytjgfooakcljddaa

/- Control elements: any part asz each of the elements. -/
namespace Go.Proofs.Ytjgfooakcljddaa
open Go.RowKit
set_option linter.unusedSimpArgs false
set_option linter.unusedVariables false
--newlaws

end Go.Proofs.Ytjgfooakcljddaa

/- Control elements: decoding undoes encoding; levels are monotonic. -/
namespace Go.Proofs.Ytjgfooakcljddaa
open Go.RowKit
set_option linter.unusedSimpArgs false
set_option linter.unusedVariables false
--newlaws

/-- what an encoder returns: an element and an error -/
def Enc (e lc : Int) (l : List Int) (v : Value) (w w' : World) : Prop := ∃ B c co, v = .tuple #[.agg #[.int .i64 lc, .slice B l.length c], .int .i64 e] ∧ SX.St w [] w' [SX.Ent.row (.slice B l.length co) 5 1 l.length (ints .u8 l)]
theorem Enc.ok {lc : Int} {l : List Int} {v : Value} {w w' : World} (h : ∃ u, v = .tuple #[u, .int .i64 0] ∧ IsPart lc l u w w') : Enc 0 lc l v w w' := by
  obtain ⟨u, rfl, B, co, rfl, h⟩ := h
  exact ⟨B, _, co, rfl, h⟩
def idOk (lc : Int) (id : Nat) : Prop := isId lc ∧ id / 2 ^ (8 * wid lc).toNat = 0
instance (lc : Int) (id : Nat) : Decidable (idOk lc id) := by unfold idOk isId; infer_instance
end Go.Proofs.Ytjgfooakcljddaa

/- Random access of a handset: what wins. -/
namespace Go.Proofs.Ytjgfooakcljddaa
open Go.RowKit
set_option linter.unusedSimpArgs false
set_option linter.unusedVariables false
--newlaws

theorem start_new {i r n c x s : Int} (h : okT s) : startV (newV i r n c x) s = (⟨i, r, n, c, x, 1, s, s, 0, 0, 0, 0, 0⟩, 0) := by
  have h0 : 0 ≤ s := h.1
  have e : tickV (newV i r n c x) s = ⟨i, r, n, c, x, 0, s, -1, 0, 0, 0, 0, 0⟩ := by
    unfold tickV
    rw [if_neg (by unfold waits newV; simp)]
    unfold newV
    simp only
    rw [show max 0 s = s from by omega]
  unfold startV
  rw [if_pos h, e, if_pos (.inl rfl)]
theorem rd_cfg27 {W : World} {cs : List Value} (z : Rd Try.prog W 24 cs) : ∃ i r n c x : Int, cs = [.int .u64 i, .int .i64 r, .int .i64 n, .int .i64 c, .int .i64 x] ∧ (0 ≤ i ∧ i ≤ 18446744073709551615) := by
  obtain ⟨hl, hf⟩ := Rd.field Try.underlying24 z
  have c5 : Try.prog.cellsOf 24 = 5 := by kernel_rfl
  have c1 : Try.prog.cellsOf 3 = 1 := by kernel_rfl
  have c2 : Try.prog.cellsOf 22 = 1 := by kernel_rfl
  rw [c5] at hl
  obtain ⟨x0, x1, x2, x3, x4, rfl⟩ := list5 hl
  obtain ⟨a, ha, wa⟩ := Rd.int Try.underlying22 (hf 0 _ rfl)
  obtain ⟨b, hb, -⟩ := Rd.int Try.underlying3 (hf 1 _ rfl)
  obtain ⟨p, hp, -⟩ := Rd.int Try.underlying3 (hf 2 _ rfl)
  obtain ⟨q, hq, -⟩ := Rd.int Try.underlying3 (hf 3 _ rfl)
  obtain ⟨s, hs, -⟩ := Rd.int Try.underlying3 (hf 4 _ rfl)
  simp [c1, c2] at ha hb hp hq hs
  subst ha hb hp hq hs
  exact ⟨a, b, p, q, s, rfl, wf_u64 wa⟩
end Go.Proofs.Ytjgfooakcljddaa

/- Random access of a handset: others' responses; giving up. -/
namespace Go.Proofs.Ytjgfooakcljddaa
open Go.RowKit
set_option linter.unusedSimpArgs false
set_option linter.unusedVariables false
--newlaws

theorem tick_idle {m : AcV} {t : Int} (h : m.st ≠ 2 ∧ m.st ≠ 3) (hn : m.now ≤ t) : tickV m t = { m with now := t } := by
  unfold tickV
  rw [if_neg (by unfold waits; intro h1; rcases h1.1 with h2 | h2; exact h.1 h2; exact h.2 h2), show max m.now t = t from by omega]
theorem tick_wait {m : AcV} {t : Int} (h : t < m.due) (hn : m.now ≤ t) : tickV m t = { m with now := t } := by
  unfold tickV
  rw [if_neg (by unfold waits; intro h1; have := h1.2; omega), show max m.now t = t from by omega]
theorem tick_fail {m : AcV} {t : Int} (h2 : m.st = 2) (h : m.due ≤ t) (hn : m.now ≤ t) : tickV m t = failV { m with now := t } := by
  unfold tickV
  rw [if_pos (by unfold waits; exact ⟨.inl h2, by omega⟩), show max m.now t = t from by omega]
theorem send_due {m : AcV} {d : Int} (h1 : m.st = 1) (hn : m.now ≤ m.due) (ht : okT m.due) (hd : 0 ≤ d) : sendV m m.due d = ({ m with now := m.due, pre := d % 64, frm := m.due + 3, att := m.att + 1, st := 2, due := m.due + 3 + m.win }, d % 64, 0) := by
  unfold sendV
  rw [if_pos ⟨ht, hd⟩, tick_idle (by rw [h1]; decide) hn, if_pos h1, if_neg (by simp)]
theorem send_state {m : AcV} {t d : Int} (h1 : m.st = 5) (hn : m.now ≤ t) (ht : okT t) (hd : 0 ≤ d) : sendV m t d = ({ m with now := t }, 0, 8) := by
  unfold sendV
  rw [if_pos ⟨ht, hd⟩, tick_idle (by rw [h1]; decide) hn, if_neg (by rw [show ({ m with now := t } : AcV).st = m.st from rfl, h1]; decide)]
theorem start_again {m : AcV} {t : Int} (h1 : m.st = 5) (hn : m.now ≤ t) (ht : okT t) : startV m t = ({ m with now := t, st := 1, due := t, att := 0, bnd := 0 }, 0) := by
  unfold startV
  rw [if_pos ht, tick_idle (by rw [h1]; decide) hn, if_pos (.inr (.inr h1))]
theorem acB_zero (id n : Int) : acB id n 0 = 0 := by
  unfold acB
  rw [show max 0 (min 960 0) + 1 = (1 : Int) from rfl]
  omega
end Go.Proofs.Ytjgfooakcljddaa

/- Random access of a handset: giving up. -/
namespace Go.Proofs.Ytjgfooakcljddaa
open Go.RowKit
set_option linter.unusedSimpArgs false
set_option linter.unusedVariables false
--newlaws

/-- ahead of attempt k + 1 -/
structure UpI (n x : Int) (k : Nat) (m : AcV) : Prop where
  ok : m.ok
  win : m.win = n
  max : m.max = x
  bnd : m.bnd = 0
  go : (k : Int) < x → m.st = 1 ∧ m.att = k ∧ m.now ≤ m.due ∧ 0 ≤ m.due ∧ m.due ≤ 13 * k
  done : (k : Int) = x → m.st = 5 ∧ m.now ≤ 1000
def sentV (m : AcV) (d : Int) : AcV := { m with now := m.due, pre := d % 64, frm := m.due + 3, att := m.att + 1, st := 2, due := m.due + 3 + m.win }
def waitV (m : AcV) (d : Int) : AcV := { sentV m d with now := m.due + 3 + m.win - 1 }
def overV (m : AcV) (d : Int) : AcV := failV { waitV m d with now := m.due + 3 + m.win }
theorem UpI.next {n x d : Int} {k : Nat} {m : AcV} (h : UpI n x k m) (hk : (k : Int) < x) (hx : x ≤ 20) (hn : 1 ≤ n ∧ n ≤ 10) (hd : 0 ≤ d) :
    sendV m m.due d = (sentV m d, d % 64, 0) ∧ (sentV m d).ok ∧ tickV (sentV m d) (m.due + 3 + m.win - 1) = waitV m d ∧ (waitV m d).ok ∧ tickV (waitV m d) (m.due + 3 + m.win) = overV m d ∧ (overV m d).ok ∧ UpI n x (k + 1) (overV m d) ∧ okT (m.due + 3 + m.win - 1) ∧ okT (m.due + 3 + m.win) := by
  obtain ⟨h1, h2, h3, h4, h5⟩ := h.go hk
  have hw := h.win
  have t0 : okT m.due := by unfold okT; omega
  have t1 : okT (m.due + 3 + m.win - 1) := by unfold okT; omega
  have t2 : okT (m.due + 3 + m.win) := by unfold okT; omega
  have q1 := send_due (m := m) (d := d) h1 h3 t0 hd
  have o1 := h.ok.send m.due d
  rw [q1] at o1
  have q2 : tickV (sentV m d) (m.due + 3 + m.win - 1) = waitV m d := tick_wait (by unfold sentV; simp only; omega) (by unfold sentV; simp only; omega)
  have o2 := o1.tick t1
  have o2' : (waitV m d).ok := by rw [← q2]; exact o2
  have q3 : tickV (waitV m d) (m.due + 3 + m.win) = overV m d := tick_fail rfl (by unfold waitV sentV; simp only; omega) (by unfold waitV; simp only; omega)
  have o3 := o2'.tick t2
  rw [q3] at o3
  refine ⟨q1, o1, q2, o2', q3, o3, ?_, t1, t2⟩
  have hm := h.max
  have hb := h.bnd
  refine ⟨o3, ?_, ?_, ?_, ?_, ?_⟩
  · unfold overV failV; split <;> exact hw
  · unfold overV failV; split <;> exact hm
  · unfold overV failV; split <;> exact hb
  · intro hk2
    unfold overV failV
    rw [if_neg (by unfold waitV sentV; simp only; omega)]
    refine ⟨rfl, by unfold waitV sentV; simp only; omega, ?_, ?_, ?_⟩ <;> (simp only; rw [show (waitV m d).bnd = 0 from hb, acB_zero]; omega)
  · intro hk2
    unfold overV failV
    rw [if_pos (by unfold waitV sentV; simp only; omega)]
    exact ⟨rfl, by simp only; omega⟩
set_option maxHeartbeats 1000000 in
set_option maxRecDepth 100000 in
theorem accessGivesUp_walk (i r n c x : Int) (A : Option Addr) (m d : Nat) (l : List Int) (w : World) (hi : 0 ≤ i) (hx : Sl w A (ints .i64 l)) (hl : l.length = m) (hm : m ≤ maxLen) :
    Calls Try.prog 6 #[.agg #[.int .u64 i, .int .i64 r, .int .i64 n, .int .i64 c, .int .i64 x], .slice A m d] w (SX.Ret fun v w' => v = .bool true ∧ SX.St w [] w' []) := by
  have hs := SX.St.start w
  by_cases hc : (newV i r n c x).cfg
  · by_cases h20 : x ≤ 20
    · have hok := newV_ok hc
      have hc9 := hc
      obtain ⟨f1, f2, f3, f4, f5⟩ := hc9
      simp only [newV] at f1 f2 f3 f4 f5
      have q1 := start_new (i := i) (r := r) (n := n) (c := c) (x := x) (s := 0) (by decide)
      have o1 := hok.start 0
      rw [q1] at o1
      have hU0 : UpI n x 0 ⟨i, r, n, c, x, 1, 0, 0, 0, 0, 0, 0, 0⟩ := ⟨o1, rfl, rfl, rfl, fun _ => ⟨rfl, rfl, Int.le_refl _, Int.le_refl _, by simp⟩, fun h => by omega⟩
      refine Z.enter Try.func6 rfl Try.ntmps6 rfl rfl ?_
      refine Z.seq ?_
      refine Z.region ?_
      refine Z.le rfl trivial ?_
      refine Z.ZO.box rfl rfl (by rfl) rfl rfl hs ?_
      clear hs; intro g2 w2 hs
      refine Z.lb 1 rfl ?_
      refine Z.lnil ?_
      refine Z.only [1, 2] rfl ?_
      refine Z.nthen ?_
      refine Z.seq ?_
      refine Z.region ?_
      refine Z.l rfl rfl (by rfl) (Z.keepS hs) (by first | exact Z.Yd.loadA _ rfl Try.isAgg24 (fun _ => Z.cellsB (by first | ((repeat (first | exact List.mem_cons_self | refine List.mem_cons_of_mem _ ?_ | refine List.mem_append_right _ ?_)); done) | fail)) (by exact Try.sizeOf24) | fail "load 1.0") ?_
      refine Z.le rfl trivial ?_
      refine Z.ZO.call rfl rfl (by rfl) rfl rfl Try.call9 rfl (ac_newT i r n c x _ hi hc) ?_
      rintro v1_1 w1_1 ⟨ga, rfl, hy⟩
      replace hs := hs.call hy
      clear hy
      try simp only [List.cons_append, List.nil_append, List.append_nil] at hs
      replace hs : SX.St w [] _ [SX.Ent.blk ga 64 (newV i r n c x).cells.toArray, _] := hs
      refine Z.lb 5 rfl ?_
      refine Z.lnil ?_
      refine Z.only [1, 2, 5, 6] rfl ?_
      refine Z.nthen ?_
      refine Z.seq ?_
      refine Z.seq ?_
      refine Z.region ?_
      refine Z.lb 3 rfl ?_
      refine Z.yes (s := 21) (b := false) rfl ((by simp)) rfl ?_
      refine Z.l rfl rfl (by rfl) (Z.keepS hs) (Z.Yd.fieldA (m := 4) rfl (by kernel_rfl)) ?_
      refine Z.l rfl rfl (by rfl) (Z.keepS hs) (by first | exact Z.Yd.load rfl Try.isAgg3 (fun _ => Z.cellB (by first | ((repeat (first | exact List.mem_cons_self | refine List.mem_cons_of_mem _ ?_ | refine List.mem_append_right _ ?_)); done) | fail) rfl) | exact Z.Yd.load rfl Try.isAgg3 (fun _ => Z.cellO (by assumption) (by simp) (by assumption)) | fail "load 2.4") ?_
      refine Z.lb 1 rfl ?_
      refine Z.yes (s := 21) (b := false) rfl rfl rfl ?_
      refine Z.l rfl rfl (by rfl) (Z.keepS hs) (Z.Yd.pickF rfl rfl) ?_
      refine Z.lnil ?_
      refine Z.only [1, 2, 5, 25] rfl ?_
      refine Z.nthen ?_
      refine Z.cond rfl (fun h => absurd h (by simp; omega)) (fun hc2 => ?_)
      refine Z.skip ?_
      refine Z.nthen ?_
      refine Z.seq ?_
      refine Z.seq ?_
      refine Z.region ?_
      refine Z.lb 1 rfl ?_
      refine Z.le rfl trivial ?_
      refine Z.ZO.call rfl rfl (by rfl) rfl rfl Try.call11 rfl (ac_start ga _ (newV i r n c x) 0 _ (hs.lend (L1 := [_])) hok) ?_
      rintro v4_1 w4_1 ⟨rfl, hz⟩
      replace hs := hs.regain (L1 := [_]) hz
      rw [q1]
      rw [q1] at hs
      refine Z.lb 1 rfl ?_
      refine Z.lnil ?_
      refine Z.only [1, 2, 5, 29] rfl ?_
      refine Z.nthen ?_
      refine Z.cond rfl (fun h => absurd h (by simp)) (fun hc4 => ?_)
      refine Z.skip ?_
      refine Z.nthen ?_
      refine Z.seq ?_
      refine Z.seq ?_
      refine Z.region ?_
      refine Z.lb 1 rfl ?_
      refine Z.lnil ?_
      refine Z.only [1, 2, 5, 7] rfl ?_
      refine Z.nthen ?_
      refine Z.block ?_
      refine Z.loopk (ι := Nat × AcV) [1, 2, 5] rfl (fun z => [(7, [], .int .i64 ((z.1 : Int) + 1))]) (fun z wr => ((z.1 : Int) ≤ x ∧ UpI n x z.1 z.2) ∧ SX.St w [] wr [SX.Ent.blk ga 64 z.2.cells.toArray, SX.Ent.blk g2 24 #[.int .u64 i, .int .i64 r, .int .i64 n, .int .i64 c, .int .i64 x]]) (fun z => x.toNat - z.1) (0, ⟨i, r, n, c, x, 1, 0, 0, 0, 0, 0, 0, 0⟩) (by refine ⟨?_, trivial⟩ <;> (first | rfl | (refine Z.lookv rfl ?_; simp; done) | (refine Z.lookv rfl ?_; simp; omega))) ⟨⟨by simp only; omega, hU0⟩, hs⟩ ?_
      clear hs
      rintro ⟨k, mk⟩ w7 ⟨⟨hk, hU⟩, hs⟩
      refine Z.only [1, 2, 5, 7] rfl ?_
      (try dsimp only at hs)
      dsimp only at hk hU
      refine Z.seq ?_
      refine Z.seq ?_
      refine Z.region ?_
      refine Z.lb 1 rfl ?_
      refine Z.l rfl rfl (by rfl) (Z.keepS hs) (Z.Yd.fieldA (m := 4) rfl (by kernel_rfl)) ?_
      refine Z.l rfl rfl (by rfl) (Z.keepS hs) (by first | exact Z.Yd.load rfl Try.isAgg3 (fun _ => Z.cellB (by first | ((repeat (first | exact List.mem_cons_self | refine List.mem_cons_of_mem _ ?_ | refine List.mem_append_right _ ?_)); done) | fail) rfl) | exact Z.Yd.load rfl Try.isAgg3 (fun _ => Z.cellO (by assumption) (by simp) (by assumption)) | fail "load 7.2") ?_
      refine Z.lb 1 rfl ?_
      refine Z.lnil ?_
      refine Z.only [1, 2, 5, 7, 33] rfl ?_
      refine Z.nthen ?_
      refine Z.cond rfl (fun hc7 => ?_) (fun hc7 => ?_)
      · first
          | (exfalso; simp at hc7 <;> omega)
          | (
            (try simp at hc7)
            have hkx : (k : Int) < x := by omega
            obtain ⟨g1, g2', g3, g4, g5⟩ := hU.go hkx
            refine Z.skip ?_
            refine Z.nthen ?_
            refine Z.seq ?_
            refine Z.block ?_
            refine Z.seq ?_
            refine Z.region ?_
            refine Z.lb 1 rfl ?_
            refine Z.lnil ?_
            refine Z.only [1, 2, 5, 7, 8] rfl ?_
            refine Z.nthen ?_
            refine Z.seq ?_
            refine Z.seq ?_
            refine Z.region ?_
            refine Z.lb 2 rfl ?_
            refine Z.l rfl rfl (by rfl) (Z.keepS hs) (Z.Yd.lenS rfl Try.underlying59) ?_
            refine Z.lb 1 rfl ?_
            refine Z.lnil ?_
            refine Z.only [1, 2, 5, 7, 8, 39] rfl ?_
            refine Z.nthen ?_
            refine Z.cutt (ι := Int) [1, 2, 5, 7] rfl (fun dr => [(8, [], .int .i64 dr)]) (fun dr wr => 0 ≤ dr ∧ SX.St w [] wr [SX.Ent.blk ga 64 mk.cells.toArray, SX.Ent.blk g2 24 #[.int .u64 i, .int .i64 r, .int .i64 n, .int .i64 c, .int .i64 x]]) ?_ ?_
            · skip
              refine Z.cond rfl (fun hc10 => ?_) (fun hc10 => ?_)
              · first
                  | (exfalso; simp at hc10 <;> omega)
                  | (
                    (try simp at hc10)
                    obtain ⟨b, off, rfl, hb0, hx2⟩ := Z.Sl.some hx (by simp [ints]; omega)
                    refine Z.region ?_
                    refine Z.lb 2 rfl ?_
                    refine Z.l rfl rfl (by rfl) (Z.keepS hs) (Z.Yd.sub rfl rfl (fun hG => Z.wi64 (by first | omega | (have hG' := Z.gh rfl hG; simp at hG'; omega)))) ?_
                    refine Z.l rfl rfl (by rfl) (Z.keepS hs) (Z.Yd.elem rfl rfl Try.underlying59 Try.sizeOf3 (fun hG => ⟨(by first | omega | (have hG' := Z.gh rfl hG; simp at hG'; omega)), (by first | omega | (have hG' := Z.gh rfl hG; simp at hG'; omega))⟩)) ?_
                    refine Z.l rfl rfl (by rfl) (Z.keepS hs) (Z.Yd.load rfl Try.isAgg3 (fun hG => Z.cellS hx2 rfl (by omega) (by omega))) ?_
                    refine Z.l rfl rfl (by rfl) (Z.keepS hs) (Z.Yd.max rfl rfl) ?_
                    refine Z.lb 1 rfl ?_
                    refine Z.lnil ?_
                    refine Z.only [1, 2, 5, 7, 8] rfl ?_
                    refine Z.nthen ?_
                    exact Z.meet _ (by refine ⟨?_, ?_, ?_, ?_, ?_, trivial⟩ <;> (first | rfl | (refine Z.lookv rfl ?_; simp; done) | (refine Z.lookv rfl ?_; simp; omega))) ⟨by omega, hs⟩
                    )
              · first
                  | (exfalso; simp at hc10 <;> omega)
                  | (
                    (try simp at hc10)
                    refine Z.skip ?_
                    refine Z.nthen ?_
                    exact Z.meet _ (by refine ⟨?_, ?_, ?_, ?_, ?_, trivial⟩ <;> (first | rfl | (refine Z.lookv rfl ?_; simp; done) | (refine Z.lookv rfl ?_; simp; omega))) ⟨by omega, hs⟩
                    )
            · clear hs
              rintro dr w10 ⟨hdr, hs⟩
              refine Z.only [1, 2, 5, 7, 8] rfl ?_
              obtain ⟨r1, o2, r3, o4, r5, o6, hU2, t1, t2⟩ := hU.next hkx h20 f3 hdr
              have r1a : (sendV mk mk.due dr).2.1 = dr % 64 := by rw [r1]
              have r1b : (sendV mk mk.due dr).2.2 = 0 := by rw [r1]
              have hwin := hU.win
              refine Z.seq ?_
              refine Z.region ?_
              refine Z.lb 1 rfl ?_
              refine Z.le rfl trivial ?_
              refine Z.ZO.call rfl rfl (by rfl) rfl rfl Try.call18 rfl (ac_Due ga mk _ (hs.celOf (cs := mk.cells) (by first | ((repeat (first | exact List.mem_cons_self | refine List.mem_cons_of_mem _ ?_ | refine List.mem_append_right _ ?_)); done) | fail)) hU.ok.cfg) ?_
              rintro v12_1 w12_1 ⟨rfl, hy⟩
              replace hs := hs.call hy
              clear hy
              try simp only [List.cons_append, List.nil_append, List.append_nil] at hs
              refine Z.lb 1 rfl ?_
              refine Z.lnil ?_
              refine Z.only [1, 2, 5, 7, 8, 9] rfl ?_
              refine Z.nthen ?_
              refine Z.seq ?_
              refine Z.seq ?_
              refine Z.region ?_
              refine Z.lb 1 rfl ?_
              refine Z.le rfl trivial ?_
              refine Z.ZO.call rfl rfl (by rfl) rfl rfl Try.call17 rfl (ac_State ga mk _ (hs.celOf (cs := mk.cells) (by first | ((repeat (first | exact List.mem_cons_self | refine List.mem_cons_of_mem _ ?_ | refine List.mem_append_right _ ?_)); done) | fail)) hU.ok.cfg) ?_
              rintro v13_1 w13_1 ⟨rfl, hy⟩
              replace hs := hs.call hy
              clear hy
              try simp only [List.cons_append, List.nil_append, List.append_nil] at hs
              rw [g1]
              refine Z.lb 2 rfl ?_
              refine Z.yes (s := 51) (b := false) rfl ((by simp)) rfl ?_
              refine Z.lb 2 rfl ?_
              refine Z.yes (s := 51) (b := false) rfl rfl rfl ?_
              refine Z.l rfl rfl (by rfl) (Z.keepS hs) (Z.Yd.pickF rfl rfl) ?_
              refine Z.lnil ?_
              refine Z.only [1, 2, 5, 7, 8, 9, 54] rfl ?_
              refine Z.nthen ?_
              refine Z.cond rfl (fun h => absurd h (by simp; omega)) (fun hc13 => ?_)
              refine Z.skip ?_
              refine Z.nthen ?_
              refine Z.seq ?_
              refine Z.region ?_
              refine Z.lb 3 rfl ?_
              refine Z.le rfl trivial ?_
              refine Z.ZO.call rfl rfl (by rfl) rfl rfl Try.call12 rfl (ac_send ga _ mk mk.due dr _ (hs.lend (L1 := [_])) hU.ok) ?_
              rintro v15_3 w15_3 ⟨rfl, hz⟩
              replace hs := hs.regain (L1 := [_]) hz
              rw [r1a, r1b]
              rw [r1] at hs
              replace hs : SX.St w [] _ [SX.Ent.blk ga 64 (sentV mk dr).cells.toArray, _] := hs
              refine Z.lb 5 rfl ?_
              refine Z.lnil ?_
              refine Z.only [1, 2, 5, 7, 8, 9, 10, 11] rfl ?_
              refine Z.nthen ?_
              refine Z.seq ?_
              refine Z.seq ?_
              refine Z.drawK (fun _ => true) mixed hs ?_
              clear hs; intro wd16 hs
              refine Z.tb [0, 1, 2, 3, 4] (by kernel_rfl) rfl ⟨_, hs, by first | (simp; done) | exact fun e he => List.mem_append_right _ he⟩ rfl ?_
              refine Z.t 5 rfl rfl rfl (by rfl) (by kernel_rfl) ⟨_, hs, by first | (simp; done) | exact fun e he => List.mem_append_right _ he⟩ (Z.Yd.rem rfl rfl (by intro hG; first | decide | omega) (by intro hG; first | exact Z.tmodn (by omega) | exact rfl)) ?_
              refine Z.tb [6, 7, 8, 9, 11] (by kernel_rfl) rfl ⟨_, hs, by first | (simp; done) | exact fun e he => List.mem_append_right _ he⟩ rfl ?_
              refine Z.yes (s := 70) (b := false) rfl (by simp) rfl ?_
              refine Z.tn 10 rfl rfl (by kernel_rfl) rfl (by exact ⟨rfl, trivial⟩) ?_
              refine Z.ZO.call rfl rfl (by rfl) rfl rfl Try.call23 rfl (ac_Attempts ga (sentV mk dr) _ (hs.celOf (cs := (sentV mk dr).cells) (by first | ((repeat (first | exact List.mem_cons_self | refine List.mem_cons_of_mem _ ?_ | refine List.mem_append_right _ ?_)); done) | fail)) o2.cfg) ?_
              rintro v16_10 w16_10 ⟨rfl, hy⟩
              replace hs := hs.call hy
              clear hy
              try simp only [List.cons_append, List.nil_append, List.append_nil] at hs
              refine Z.tk (Dn := fun _ => true) (i := 10) (fun _ => ⟨_, hs, by first | (simp; done) | exact fun e he => List.mem_append_right _ he⟩) ?_
              refine Z.tb [12, 13, 14, 15] (by kernel_rfl) rfl ⟨_, hs, by first | (simp; done) | exact fun e he => List.mem_append_right _ he⟩ rfl ?_
              refine Z.yes (s := 76) (b := false) rfl (by show (false || (mk.att + 1 != (k : Int) + 1)) = false; simp; omega) rfl ?_
              refine Z.tn 16 rfl rfl (by kernel_rfl) rfl (by exact ⟨rfl, trivial⟩) ?_
              refine Z.ZO.call rfl rfl (by rfl) rfl rfl Try.call17 rfl (ac_State ga (sentV mk dr) _ (hs.celOf (cs := (sentV mk dr).cells) (by first | ((repeat (first | exact List.mem_cons_self | refine List.mem_cons_of_mem _ ?_ | refine List.mem_append_right _ ?_)); done) | fail)) o2.cfg) ?_
              rintro v16_16 w16_16 ⟨rfl, hy⟩
              replace hs := hs.call hy
              clear hy
              try simp only [List.cons_append, List.nil_append, List.append_nil] at hs
              refine Z.tk (Dn := fun _ => true) (i := 16) (fun _ => ⟨_, hs, by first | (simp; done) | exact fun e he => List.mem_append_right _ he⟩) ?_
              refine Z.tb [17, 18, 19, 20, 22] (by kernel_rfl) rfl ⟨_, hs, by first | (simp; done) | exact fun e he => List.mem_append_right _ he⟩ rfl ?_
              refine Z.t 23 rfl rfl rfl (by rfl) (by kernel_rfl) ⟨_, hs, by first | (simp; done) | exact fun e he => List.mem_append_right _ he⟩ (Z.Yd.add rfl rfl (fun hG => Z.wi64 (by first | omega | (have hG' := Z.gh rfl hG; simp at hG'; omega)))) ?_
              refine Z.t 24 rfl rfl rfl (by rfl) (by kernel_rfl) ⟨_, hs, by first | (simp; done) | exact fun e he => List.mem_append_right _ he⟩ (Z.Yd.fieldA (m := 2) rfl (by kernel_rfl)) ?_
              refine Z.t 25 rfl rfl rfl (by rfl) (by kernel_rfl) ⟨_, hs, by first | (simp; done) | exact fun e he => List.mem_append_right _ he⟩ (by first | exact Z.Yd.load rfl Try.isAgg3 (fun _ => Z.cellB (by first | ((repeat (first | exact List.mem_cons_self | refine List.mem_cons_of_mem _ ?_ | refine List.mem_append_right _ ?_)); done) | fail) rfl) | exact Z.Yd.load rfl Try.isAgg3 (fun _ => Z.cellO (by assumption) (by simp) (by assumption)) | fail "load 16.25") ?_
              refine Z.t 26 rfl rfl rfl (by rfl) (by kernel_rfl) ⟨_, hs, by first | (simp; done) | exact fun e he => List.mem_append_right _ he⟩ (Z.Yd.add rfl rfl (fun hG => Z.wi64 (by first | omega | (have hG' := Z.gh rfl hG; simp at hG'; omega)))) ?_
              refine Z.yes (s := 81) (b := false) rfl (by show (false || ((2 : Int) != 2)) = false; simp) rfl ?_
              refine Z.tn 21 rfl rfl (by kernel_rfl) rfl (by exact ⟨rfl, trivial⟩) ?_
              refine Z.ZO.call rfl rfl (by rfl) rfl rfl Try.call18 rfl (ac_Due ga (sentV mk dr) _ (hs.celOf (cs := (sentV mk dr).cells) (by first | ((repeat (first | exact List.mem_cons_self | refine List.mem_cons_of_mem _ ?_ | refine List.mem_append_right _ ?_)); done) | fail)) o2.cfg) ?_
              rintro v16_21 w16_21 ⟨rfl, hy⟩
              replace hs := hs.call hy
              clear hy
              try simp only [List.cons_append, List.nil_append, List.append_nil] at hs
              refine Z.tk (Dn := fun _ => true) (i := 21) (fun _ => ⟨_, hs, by first | (simp; done) | exact fun e he => List.mem_append_right _ he⟩) ?_
              refine Z.tb [27, 28] (by kernel_rfl) rfl ⟨_, hs, by first | (simp; done) | exact fun e he => List.mem_append_right _ he⟩ rfl ?_
              refine Z.td (by rfl) (by kernel_rfl) ?_
              refine Z.only [1, 2, 5, 7, 90] rfl ?_
              refine Z.nthen ?_
              refine Z.cond rfl (fun h => absurd h (by show (false || (mk.due + 3 + mk.win != mk.due + 3 + n)) ≠ true; rw [hwin]; simp)) (fun hc16 => ?_)
              refine Z.skip ?_
              refine Z.nthen ?_
              refine Z.seq ?_
              refine Z.region ?_
              refine Z.lb 2 rfl ?_
              refine Z.le rfl trivial ?_
              refine Z.ZO.call rfl rfl (by rfl) rfl rfl Try.call18 rfl (ac_Due ga (sentV mk dr) _ (hs.celOf (cs := (sentV mk dr).cells) (by first | ((repeat (first | exact List.mem_cons_self | refine List.mem_cons_of_mem _ ?_ | refine List.mem_append_right _ ?_)); done) | fail)) o2.cfg) ?_
              rintro v18_2 w18_2 ⟨rfl, hy⟩
              replace hs := hs.call hy
              clear hy
              try simp only [List.cons_append, List.nil_append, List.append_nil] at hs
              rw [show (sentV mk dr).due = mk.due + 3 + mk.win from rfl]
              refine Z.l rfl rfl (by rfl) (Z.keepS hs) (Z.Yd.sub rfl rfl (fun hG => Z.wi64 (by first | omega | (have hG' := Z.gh rfl hG; simp at hG'; omega)))) ?_
              refine Z.le rfl trivial ?_
              refine Z.ZO.call rfl rfl (by rfl) rfl rfl Try.call24 rfl (ac_tick ga _ (sentV mk dr) (mk.due + 3 + mk.win - 1) _ (hs.lend (L1 := [_])) o2) ?_
              rintro v18_4 w18_4 ⟨rfl, hz⟩
              replace hs := hs.regain (L1 := [_]) hz
              rw [if_pos t1]
              rw [if_pos t1, r3] at hs
              simp only [List.cons_append, List.nil_append] at hs
              refine Z.lb 2 rfl ?_
              refine Z.yes (s := 97) (b := false) rfl ((by simp)) rfl ?_
              refine Z.lb 1 rfl ?_
              refine Z.yes (s := 97) (b := false) rfl rfl rfl ?_
              refine Z.le rfl (by exact ⟨rfl, trivial⟩) ?_
              refine Z.ZO.call rfl rfl (by rfl) rfl rfl Try.call17 rfl (ac_State ga (waitV mk dr) _ (hs.celOf (cs := (waitV mk dr).cells) (by first | ((repeat (first | exact List.mem_cons_self | refine List.mem_cons_of_mem _ ?_ | refine List.mem_append_right _ ?_)); done) | fail)) o4.cfg) ?_
              rintro v18_8 w18_8 ⟨rfl, hy⟩
              replace hs := hs.call hy
              clear hy
              try simp only [List.cons_append, List.nil_append, List.append_nil] at hs
              rw [show (waitV mk dr).st = 2 from rfl]
              refine Z.lb 1 rfl ?_
              refine Z.yes (s := 97) (b := false) rfl rfl rfl ?_
              refine Z.l rfl rfl (by rfl) (Z.keepS hs) (Z.Yd.pickF rfl rfl) ?_
              refine Z.lb 1 rfl ?_
              refine Z.yes (s := 102) (b := false) rfl ((by simp)) rfl ?_
              refine Z.lb 2 rfl ?_
              refine Z.yes (s := 102) (b := false) rfl rfl rfl ?_
              refine Z.le rfl (by exact ⟨rfl, trivial⟩) ?_
              refine Z.ZO.call rfl rfl (by rfl) rfl rfl Try.call18 rfl (ac_Due ga (waitV mk dr) _ (hs.celOf (cs := (waitV mk dr).cells) (by first | ((repeat (first | exact List.mem_cons_self | refine List.mem_cons_of_mem _ ?_ | refine List.mem_append_right _ ?_)); done) | fail)) o4.cfg) ?_
              rintro v18_14 w18_14 ⟨rfl, hy⟩
              replace hs := hs.call hy
              clear hy
              try simp only [List.cons_append, List.nil_append, List.append_nil] at hs
              rw [show (waitV mk dr).due = mk.due + 3 + mk.win from rfl]
              refine Z.le rfl (by exact ⟨rfl, trivial⟩) ?_
              refine Z.ZO.call rfl rfl (by rfl) rfl rfl Try.call24 rfl (ac_tick ga _ (waitV mk dr) (mk.due + 3 + mk.win) _ (hs.lend (L1 := [_])) o4) ?_
              rintro v18_15 w18_15 ⟨rfl, hz⟩
              replace hs := hs.regain (L1 := [_]) hz
              rw [if_pos t2]
              rw [if_pos t2, r5] at hs
              simp only [List.cons_append, List.nil_append] at hs
              refine Z.lb 1 rfl ?_
              refine Z.yes (s := 102) (b := false) rfl rfl rfl ?_
              refine Z.l rfl rfl (by rfl) (Z.keepS hs) (Z.Yd.pickF rfl rfl) ?_
              refine Z.lnil ?_
              refine Z.only [1, 2, 5, 7, 108] rfl ?_
              refine Z.nthen ?_
              refine Z.cond rfl (fun h => absurd h (by simp)) (fun hc18 => ?_)
              refine Z.skip ?_
              refine Z.nblock ?_
              refine Z.nthen ?_
              refine Z.region ?_
              refine Z.lb 1 rfl ?_
              refine Z.l rfl rfl (by rfl) (Z.keepS hs) (Z.Yd.add rfl rfl (fun hG => Z.wi64 (by first | omega | (have hG' := Z.gh rfl hG; simp at hG'; omega)))) ?_
              refine Z.lb 1 rfl ?_
              refine Z.lnil ?_
              refine Z.only [1, 2, 5, 7] rfl ?_
              refine Z.nthen ?_
              exact Z.again (k + 1, overV mk dr) (by refine ⟨?_, ?_, ?_, ?_, trivial⟩ <;> (first | rfl | (refine Z.lookv rfl ?_; simp; done) | (refine Z.lookv rfl ?_; simp; omega))) ⟨⟨by simp only; omega, hU2⟩, hs⟩ (by simp only; omega)
            )
      · first
          | (exfalso; simp at hc7 <;> omega)
          | (
            (try simp at hc7)
            refine Z.exit ?_
            refine Z.xthen ?_
            refine Z.xthen ?_
            refine Z.xblock ?_
            refine Z.nthen ?_
            refine Z.seq ?_
            refine Z.region ?_
            have hkx : (k : Int) = x := by omega
            obtain ⟨u1, u2⟩ := hU.done hkx
            have ht : okT 1048576 := by decide
            have r1 := send_state (m := mk) (t := 1048576) (d := 0) u1 (by omega) ht (Int.le_refl _)
            have r1b : (sendV mk 1048576 0).2.2 = 8 := by rw [r1]
            have o2 := hU.ok.send 1048576 0
            rw [r1] at o2
            obtain ⟨m5, hm5⟩ : ∃ m5 : AcV, m5 = { mk with now := 1048576 } := ⟨_, rfl⟩
            rw [← hm5] at o2 r1
            have u5 : m5.st = 5 := by rw [hm5]; exact u1
            have r2 := start_again (m := m5) (t := 1048576) u5 (by rw [hm5]; exact Int.le_refl _) ht
            have o3 := o2.start 1048576
            rw [r2] at o3
            obtain ⟨m6, hm6⟩ : ∃ m6 : AcV, m6 = { m5 with now := 1048576, st := 1, due := 1048576, att := 0, bnd := 0 } := ⟨_, rfl⟩
            rw [← hm6] at o3 r2
            have v1 : m6.att = 0 := by rw [hm6]
            have v2 : m6.st = 1 := by rw [hm6]
            refine Z.l rfl rfl (by rfl) (Z.keepS hs) (Z.Yd.pure rfl) ?_
            refine Z.le rfl trivial ?_
            refine Z.ZO.call rfl rfl (by rfl) rfl rfl Try.call12 rfl (ac_send ga _ mk 1048576 0 _ (hs.lend (L1 := [_])) hU.ok) ?_
            rintro v20_1 w20_1 ⟨rfl, hz⟩
            replace hs := hs.regain (L1 := [_]) hz
            rw [r1b]
            rw [r1] at hs
            replace hs : SX.St w [] _ [SX.Ent.blk ga 64 m5.cells.toArray, _] := hs
            refine Z.lb 5 rfl ?_
            refine Z.lnil ?_
            refine Z.only [5, 13] rfl ?_
            refine Z.nthen ?_
            refine Z.seq ?_
            refine Z.region ?_
            refine Z.lb 1 rfl ?_
            refine Z.le rfl trivial ?_
            refine Z.ZO.call rfl rfl (by rfl) rfl rfl Try.call17 rfl (ac_State ga m5 _ (hs.celOf (cs := m5.cells) (by first | ((repeat (first | exact List.mem_cons_self | refine List.mem_cons_of_mem _ ?_ | refine List.mem_append_right _ ?_)); done) | fail)) o2.cfg) ?_
            rintro v21_1 w21_1 ⟨rfl, hy⟩
            replace hs := hs.call hy
            clear hy
            try simp only [List.cons_append, List.nil_append, List.append_nil] at hs
            rw [u5]
            refine Z.lb 6 rfl ?_
            refine Z.yes (s := 121) (b := true) rfl ((by simp)) rfl ?_
            refine Z.lb 1 rfl ?_
            refine Z.yes (s := 121) (b := true) rfl rfl rfl ?_
            refine Z.le rfl (by exact ⟨rfl, trivial⟩) ?_
            refine Z.ZO.call rfl rfl (by rfl) rfl rfl Try.call11 rfl (ac_start ga _ m5 1048576 _ (hs.lend (L1 := [_])) o2) ?_
            rintro v21_9 w21_9 ⟨rfl, hz⟩
            replace hs := hs.regain (L1 := [_]) hz
            rw [r2]
            rw [r2] at hs
            replace hs : SX.St w [] _ [SX.Ent.blk ga 64 m6.cells.toArray, _] := hs
            refine Z.lb 1 rfl ?_
            refine Z.yes (s := 121) (b := true) rfl rfl rfl ?_
            refine Z.l rfl rfl (by rfl) (Z.keepS hs) (Z.Yd.pickT rfl rfl) ?_
            refine Z.lb 1 rfl ?_
            refine Z.yes (s := 126) (b := true) rfl ((by simp)) rfl ?_
            refine Z.lb 1 rfl ?_
            refine Z.yes (s := 126) (b := true) rfl rfl rfl ?_
            refine Z.le rfl (by exact ⟨rfl, trivial⟩) ?_
            refine Z.ZO.call rfl rfl (by rfl) rfl rfl Try.call23 rfl (ac_Attempts ga m6 _ (hs.celOf (cs := m6.cells) (by first | ((repeat (first | exact List.mem_cons_self | refine List.mem_cons_of_mem _ ?_ | refine List.mem_append_right _ ?_)); done) | fail)) o3.cfg) ?_
            rintro v21_14 w21_14 ⟨rfl, hy⟩
            replace hs := hs.call hy
            clear hy
            try simp only [List.cons_append, List.nil_append, List.append_nil] at hs
            rw [v1]
            refine Z.lb 1 rfl ?_
            refine Z.yes (s := 126) (b := true) rfl rfl rfl ?_
            refine Z.l rfl rfl (by rfl) (Z.keepS hs) (Z.Yd.pickT rfl rfl) ?_
            refine Z.lb 1 rfl ?_
            refine Z.yes (s := 131) (b := true) rfl ((by simp)) rfl ?_
            refine Z.lb 1 rfl ?_
            refine Z.yes (s := 131) (b := true) rfl rfl rfl ?_
            refine Z.le rfl (by exact ⟨rfl, trivial⟩) ?_
            refine Z.ZO.call rfl rfl (by rfl) rfl rfl Try.call17 rfl (ac_State ga m6 _ (hs.celOf (cs := m6.cells) (by first | ((repeat (first | exact List.mem_cons_self | refine List.mem_cons_of_mem _ ?_ | refine List.mem_append_right _ ?_)); done) | fail)) o3.cfg) ?_
            rintro v21_19 w21_19 ⟨rfl, hy⟩
            replace hs := hs.call hy
            clear hy
            try simp only [List.cons_append, List.nil_append, List.append_nil] at hs
            rw [v2]
            refine Z.lb 1 rfl ?_
            refine Z.yes (s := 131) (b := true) rfl rfl rfl ?_
            refine Z.l rfl rfl (by rfl) (Z.keepS hs) (Z.Yd.pickT rfl rfl) ?_
            refine Z.lb 1 rfl ?_
            refine Z.yes (s := 136) (b := true) rfl ((by simp)) rfl ?_
            refine Z.le rfl (by exact ⟨rfl, trivial⟩) ?_
            refine Z.ZO.call rfl rfl (by rfl) rfl rfl Try.call10 rfl (ac_known _) ?_
            rintro v21_23 w21_23 ⟨rfl, hy⟩
            replace hs := hs.call hy
            clear hy
            try simp only [List.cons_append, List.nil_append, List.append_nil] at hs
            refine Z.l rfl rfl (by rfl) (Z.keepS hs) (Z.Yd.pickT rfl rfl) ?_
            refine Z.lb 1 rfl ?_
            refine Z.lnil ?_
            refine Z.only [4] rfl ?_
            refine Z.nthen ?_
            refine Z.ret ?_
            -- ret#0
            refine Z.out1 (by exact ⟨rfl, trivial⟩) ?_
            first | exact ⟨_, rfl, rfl, hs⟩ | exact ⟨_, rfl, rfl, hs.sub (List.nil_sublist _)⟩
            )
    · skip
      refine Z.enter Try.func6 rfl Try.ntmps6 rfl rfl ?_
      refine Z.seq ?_
      refine Z.region ?_
      refine Z.le rfl trivial ?_
      refine Z.ZO.box rfl rfl (by rfl) rfl rfl hs ?_
      clear hs; intro g2 w2 hs
      refine Z.lb 1 rfl ?_
      refine Z.lnil ?_
      refine Z.only [1, 2] rfl ?_
      refine Z.nthen ?_
      refine Z.seq ?_
      refine Z.region ?_
      refine Z.l rfl rfl (by rfl) (Z.keepS hs) (by first | exact Z.Yd.loadA _ rfl Try.isAgg24 (fun _ => Z.cellsB (by first | ((repeat (first | exact List.mem_cons_self | refine List.mem_cons_of_mem _ ?_ | refine List.mem_append_right _ ?_)); done) | fail)) (by exact Try.sizeOf24) | fail "load 1.0") ?_
      refine Z.le rfl trivial ?_
      refine Z.ZO.call rfl rfl (by rfl) rfl rfl Try.call9 rfl (ac_newT i r n c x _ hi hc) ?_
      rintro v1_1 w1_1 ⟨ga, rfl, hy⟩
      replace hs := hs.call hy
      clear hy
      try simp only [List.cons_append, List.nil_append, List.append_nil] at hs
      refine Z.lb 5 rfl ?_
      refine Z.lnil ?_
      refine Z.only [1, 2, 5, 6] rfl ?_
      refine Z.nthen ?_
      refine Z.seq ?_
      refine Z.seq ?_
      refine Z.region ?_
      refine Z.lb 3 rfl ?_
      refine Z.yes (s := 21) (b := false) rfl ((by simp)) rfl ?_
      refine Z.l rfl rfl (by rfl) (Z.keepS hs) (Z.Yd.fieldA (m := 4) rfl (by kernel_rfl)) ?_
      refine Z.l rfl rfl (by rfl) (Z.keepS hs) (by first | exact Z.Yd.load rfl Try.isAgg3 (fun _ => Z.cellB (by first | ((repeat (first | exact List.mem_cons_self | refine List.mem_cons_of_mem _ ?_ | refine List.mem_append_right _ ?_)); done) | fail) rfl) | exact Z.Yd.load rfl Try.isAgg3 (fun _ => Z.cellO (by assumption) (by simp) (by assumption)) | fail "load 2.4") ?_
      refine Z.lb 1 rfl ?_
      refine Z.yes (s := 21) (b := false) rfl rfl rfl ?_
      refine Z.l rfl rfl (by rfl) (Z.keepS hs) (Z.Yd.pickF rfl rfl) ?_
      refine Z.lnil ?_
      refine Z.only [1, 2, 5, 25] rfl ?_
      refine Z.nthen ?_
      refine Z.cond rfl (fun hc2 => ?_) (fun h => absurd h (by simp; omega))
      refine Z.seq ?_
      refine Z.region ?_
      refine Z.le rfl trivial ?_
      refine Z.ZO.call rfl rfl (by rfl) rfl rfl Try.call10 rfl (ac_known _) ?_
      rintro v3_0 w3_0 ⟨rfl, hy⟩
      replace hs := hs.call hy
      clear hy
      try simp only [List.cons_append, List.nil_append, List.append_nil] at hs
      refine Z.lb 1 rfl ?_
      refine Z.lnil ?_
      refine Z.only [4] rfl ?_
      refine Z.nthen ?_
      refine Z.ret ?_
      repeat (first | refine Z.rthen ?_ | refine Z.rblock ?_ | refine Z.rscope ?_)
      -- ret#0
      refine Z.out1 (by exact ⟨rfl, trivial⟩) ?_
      first | exact ⟨_, rfl, rfl, hs⟩ | exact ⟨_, rfl, rfl, hs.sub (List.nil_sublist _)⟩
  · skip
    refine Z.enter Try.func6 rfl Try.ntmps6 rfl rfl ?_
    refine Z.seq ?_
    refine Z.region ?_
    refine Z.le rfl trivial ?_
    refine Z.ZO.box rfl rfl (by rfl) rfl rfl hs ?_
    clear hs; intro g2 w2 hs
    refine Z.lb 1 rfl ?_
    refine Z.lnil ?_
    refine Z.only [1, 2] rfl ?_
    refine Z.nthen ?_
    refine Z.seq ?_
    refine Z.region ?_
    refine Z.l rfl rfl (by rfl) (Z.keepS hs) (by first | exact Z.Yd.loadA _ rfl Try.isAgg24 (fun _ => Z.cellsB (by first | ((repeat (first | exact List.mem_cons_self | refine List.mem_cons_of_mem _ ?_ | refine List.mem_append_right _ ?_)); done) | fail)) (by exact Try.sizeOf24) | fail "load 1.0") ?_
    refine Z.le rfl trivial ?_
    refine Z.ZO.call rfl rfl (by rfl) rfl rfl Try.call9 rfl (ac_newF i r n c x _ hi hc) ?_
    rintro v1_1 w1_1 ⟨rfl, hy⟩
    replace hs := hs.call hy
    clear hy
    try simp only [List.cons_append, List.nil_append, List.append_nil] at hs
    refine Z.lb 5 rfl ?_
    refine Z.lnil ?_
    refine Z.only [1, 2, 5, 6] rfl ?_
    refine Z.nthen ?_
    refine Z.seq ?_
    refine Z.seq ?_
    refine Z.region ?_
    refine Z.lb 3 rfl ?_
    refine Z.yes (s := 21) (b := true) rfl ((by simp)) rfl ?_
    refine Z.ls rfl rfl rfl (by rfl) ?_
    refine Z.ls rfl rfl rfl (by rfl) ?_
    refine Z.ls rfl rfl rfl (by rfl) ?_
    refine Z.l rfl rfl (by rfl) (Z.keepS hs) (Z.Yd.pickT rfl rfl) ?_
    refine Z.lnil ?_
    refine Z.only [1, 2, 5, 25] rfl ?_
    refine Z.nthen ?_
    refine Z.cond rfl (fun hc2 => ?_) (fun h => absurd h (by simp))
    refine Z.seq ?_
    refine Z.region ?_
    refine Z.le rfl trivial ?_
    refine Z.ZO.call rfl rfl (by rfl) rfl rfl Try.call10 rfl (ac_known _) ?_
    rintro v3_0 w3_0 ⟨rfl, hy⟩
    replace hs := hs.call hy
    clear hy
    try simp only [List.cons_append, List.nil_append, List.append_nil] at hs
    refine Z.lb 1 rfl ?_
    refine Z.lnil ?_
    refine Z.only [4] rfl ?_
    refine Z.nthen ?_
    refine Z.ret ?_
    repeat (first | refine Z.rthen ?_ | refine Z.rblock ?_ | refine Z.rscope ?_)
    -- ret#0
    refine Z.out1 (by exact ⟨rfl, trivial⟩) ?_
    first | exact ⟨_, rfl, rfl, hs⟩ | exact ⟨_, rfl, rfl, hs.sub (List.nil_sublist _)⟩
theorem accessGivesUp_rd (cs0 : Array Value) (a1 : Option Addr) (len1 cap1 : Nat) (w : World) (z0 : Rd Try.prog w 24 (Value.agg cs0).cells.toList) (z1 : Rd Try.prog w 59 (Value.slice a1 len1 cap1).cells.toList) :
    Calls Try.prog 6 #[.agg cs0, .slice a1 len1 cap1] w fun e w' => e = .returned (.bool true) ∧ Below w.heap.size w w' := by
  obtain ⟨i, r, n, c, x, hr, hi⟩ := rd_cfg27 z0
  have e : cs0 = #[.int .u64 i, .int .i64 r, .int .i64 n, .int .i64 c, .int .i64 x] := by
    have : cs0.toList = [.int .u64 i, .int .i64 r, .int .i64 n, .int .i64 c, .int .i64 x] := by simpa [Value.cells] using hr
    exact Array.toList_inj.1 this
  rw [e]
  obtain ⟨l, h1, h2, h3, -, h5⟩ := Rb.rd_ints (show Rd Try.prog w 59 [.slice a1 len1 cap1] by simpa [Value.cells] using z1)
  refine (accessGivesUp_walk i r n c x a1 len1 cap1 l w hi.1 h5 h1 (Nat.le_trans h2 h3)).mono ?_
  rintro e w' ⟨v, rfl, rfl, h⟩
  exact ⟨rfl, h.below⟩
end Go.Proofs.Ytjgfooakcljddaa
