/- Part 6 of the proofs that lead to the statement. -/
import Derived.Test.YtjgfooakcljddaaY5
/- Random access of a handset: what can be seen agrees; one step. -/
namespace Go.Proofs.Ytjgfooakcljddaa
open Go.RowKit
set_option linter.unusedSimpArgs false
set_option linter.unusedVariables false
--newlaws

theorem AcV.ok.start {m : AcV} (h : m.ok) (t : Int) : (startV m t).1.ok := by
  unfold startV
  split
  · rename_i ht
    obtain ⟨h1, h2, h3, h4, h5, h6, h7, h8, h9, h10⟩ := h.tick ht
    split
    · exact ⟨h1, by simp only; omega, h3, by simp only; omega, h5, h6, by simp only; have := h1.2.2.2.2; omega, by simp only; omega, h9, fun _ => by simp only; have := h1.2.2.2.2; omega⟩
    · exact ⟨h1, h2, h3, h4, h5, h6, h7, h8, h9, h10⟩
  · exact h
theorem AcV.ok.send {m : AcV} (h : m.ok) (t d : Int) : (sendV m t d).1.ok := by
  unfold sendV
  split
  · rename_i ht
    have hk := h.tick ht.1
    split
    · rename_i h0
      split
      · exact hk
      · obtain ⟨h1, h2, h3, h4, h5, h6, h7, h8, h9, h10⟩ := hk
        have hw := h1.2.2.1
        have hg := h10 h0
        exact ⟨h1, by simp only; omega, h3, by simp only; omega, by simp only; omega, by simp only; omega, by simp only; omega, h8, h9, fun h => by simp at h⟩
    · exact hk
  · exact h
theorem AcV.ok.answer {m : AcV} (h : m.ok) (t p r k : Int) : (answerV m t p r k).1.ok := by
  unfold answerV
  split
  · rename_i ht
    have hk := h.tick ht.1
    have hr := ht.2
    unfold okR at hr
    split
    · split
      · split
        · exact (hk.bound hr.2.2).fail
        · obtain ⟨h1, h2, h3, h4, h5, h6, h7, h8, h9, h10⟩ := hk
          have hw := h1.2.2.2.1
          exact ⟨h1, by simp only; omega, h3, by simp only; omega, h5, h6, h7, h8, by simp only; omega, fun h => by simp at h⟩
      · exact hk
    · exact hk
  · exact h
theorem AcV.ok.resolve {m : AcV} (h : m.ok) (t lc : Int) (l : List Int) : (resolveV m t lc l).1.ok := by
  unfold resolveV
  split
  · rename_i ht
    have hk := h.tick ht
    split
    · split
      · split
        · obtain ⟨h1, h2, h3, h4, h5, h6, h7, h8, h9, h10⟩ := hk
          exact ⟨h1, by simp only; omega, h3, by simp only; omega, h5, h6, h7, h8, h9, fun h => by simp at h⟩
        · exact hk.fail
      · exact hk
    · exact h
  · exact h
theorem AcV.ok.tickR {m : AcV} (h : m.ok) (t : Int) : (Go.Proofs.Ytjgfooakcljddaa.tickR m t).ok := by
  unfold Go.Proofs.Ytjgfooakcljddaa.tickR
  split
  · rename_i ht; exact h.tick ht
  · exact h
theorem ac_Message3 (g : Nat) (m : AcV) (w : World) (hc : Cel w g m.cells) (hf : m.cfg) (h3 : m.st = 3) :
    Calls Try.prog 15 #[.pointer (some ⟨g, 0, none⟩)] w (SX.Ret fun v w' => ∃ u, v = .tuple #[u, .int .i64 0] ∧ OwnPt (msgC m) (msgL m) u w w') := by
  have h := ac_Message g m w hc hf
  simpa only [if_pos h3] using h
theorem ac_MessageN (g : Nat) (m : AcV) (w : World) (hc : Cel w g m.cells) (hf : m.cfg) (h3 : ¬ m.st = 3) :
    Calls Try.prog 15 #[.pointer (some ⟨g, 0, none⟩)] w (SX.Ret fun v w' => v = .tuple #[.agg #[.int .i64 0, .slice none 0 0], .int .i64 8] ∧ SX.St w [] w' []) := by
  have h := ac_Message g m w hc hf
  simpa only [if_neg h3] using h
set_option maxHeartbeats 1000000 in
theorem ac_agrees (g : Nat) (m : AcV) (w : World) (hc : Cel w g m.cells) (hf : m.cfg) :
    Calls Try.prog 21 #[.pointer (some ⟨g, 0, none⟩), .agg m.cells.toArray] w (SX.Ret fun v w' => v = .bool true ∧ SX.St w [] w' []) := by
  have hs := SX.St.start w
  show Calls Try.prog 21 #[.pointer (some ⟨g, 0, none⟩), .agg #[.int .u64 (m).id, .int .i64 (m).rnt, .int .i64 (m).win, .int .i64 (m).con, .int .i64 (m).max, .int .i64 (m).st, .int .i64 (m).now, .int .i64 (m).due, .int .i64 (m).frm, .int .i64 (m).pre, .int .i64 (m).att, .int .i64 (m).bnd, .int .i64 (m).rn]] w _
  have hml := msgL_len m
  have hmb := msgL_by m
  by_cases h3 : m.st = 3
  · skip
    refine Z.enter Try.func21 rfl Try.ntmps21 rfl rfl ?_
    refine Z.seq ?_
    refine Z.region ?_
    refine Z.le rfl trivial ?_
    refine Z.ZO.box rfl rfl (by rfl) rfl rfl hs ?_
    clear hs; intro g3 w3 hs
    refine Z.lb 1 rfl ?_
    refine Z.lnil ?_
    refine Z.only [0, 3] rfl ?_
    refine Z.nthen ?_
    refine Z.seq ?_
    refine Z.seq ?_
    refine Z.drawK (fun _ => true) mixed hs ?_
    clear hs; intro wd1 hs
    refine Z.tb [0] (by kernel_rfl) rfl ⟨_, hs, by first | (simp; done) | exact fun e he => List.mem_append_right _ he⟩ rfl ?_
    refine Z.t 2 rfl rfl rfl (by rfl) (by kernel_rfl) ⟨_, hs, by first | (simp; done) | exact fun e he => List.mem_append_right _ he⟩ (Z.Yd.fieldA (m := 5) rfl (by kernel_rfl)) ?_
    refine Z.t 3 rfl rfl rfl (by rfl) (by kernel_rfl) ⟨_, hs, by first | (simp; done) | exact fun e he => List.mem_append_right _ he⟩ (by first | exact Z.Yd.load rfl Try.isAgg44 (fun _ => Z.cellB (by first | ((repeat (first | exact List.mem_cons_self | refine List.mem_cons_of_mem _ ?_ | refine List.mem_append_right _ ?_)); done) | fail) rfl) | exact Z.Yd.load rfl Try.isAgg44 (fun _ => Z.cellO (by assumption) (by simp) (by assumption)) | fail "load 1.3") ?_
    refine Z.tn 1 rfl rfl (by kernel_rfl) rfl trivial ?_
    refine Z.ZO.call rfl rfl (by rfl) rfl rfl Try.call17 rfl (ac_State g m _ (hc.st (hs.sub (List.nil_sublist _))) hf) ?_
    rintro v1_1 w1_1 ⟨rfl, hy⟩
    replace hs := hs.call hy
    clear hy
    try simp only [List.cons_append, List.nil_append, List.append_nil] at hs
    refine Z.tk (Dn := fun _ => true) (i := 1) (fun _ => ⟨_, hs, by first | (simp; done) | exact fun e he => List.mem_append_right _ he⟩) ?_
    refine Z.tb [4, 5, 6] (by kernel_rfl) rfl ⟨_, hs, by first | (simp; done) | exact fun e he => List.mem_append_right _ he⟩ rfl ?_
    refine Z.t 8 rfl rfl rfl (by rfl) (by kernel_rfl) ⟨_, hs, by first | (simp; done) | exact fun e he => List.mem_append_right _ he⟩ (Z.Yd.fieldA (m := 7) rfl (by kernel_rfl)) ?_
    refine Z.t 9 rfl rfl rfl (by rfl) (by kernel_rfl) ⟨_, hs, by first | (simp; done) | exact fun e he => List.mem_append_right _ he⟩ (by first | exact Z.Yd.load rfl Try.isAgg3 (fun _ => Z.cellB (by first | ((repeat (first | exact List.mem_cons_self | refine List.mem_cons_of_mem _ ?_ | refine List.mem_append_right _ ?_)); done) | fail) rfl) | exact Z.Yd.load rfl Try.isAgg3 (fun _ => Z.cellO (by assumption) (by simp) (by assumption)) | fail "load 1.9") ?_
    refine Z.yes (s := 12) (b := false) rfl (by simp) rfl ?_
    refine Z.tn 7 rfl rfl (by kernel_rfl) rfl (by exact ⟨rfl, trivial⟩) ?_
    refine Z.ZO.call rfl rfl (by rfl) rfl rfl Try.call18 rfl (ac_Due g m _ (hc.st (hs.sub (List.nil_sublist _))) hf) ?_
    rintro v1_7 w1_7 ⟨rfl, hy⟩
    replace hs := hs.call hy
    clear hy
    try simp only [List.cons_append, List.nil_append, List.append_nil] at hs
    refine Z.tk (Dn := fun _ => true) (i := 7) (fun _ => ⟨_, hs, by first | (simp; done) | exact fun e he => List.mem_append_right _ he⟩) ?_
    refine Z.tb [10, 11, 12, 13] (by kernel_rfl) rfl ⟨_, hs, by first | (simp; done) | exact fun e he => List.mem_append_right _ he⟩ rfl ?_
    refine Z.t 15 rfl rfl rfl (by rfl) (by kernel_rfl) ⟨_, hs, by first | (simp; done) | exact fun e he => List.mem_append_right _ he⟩ (Z.Yd.fieldA (m := 10) rfl (by kernel_rfl)) ?_
    refine Z.t 16 rfl rfl rfl (by rfl) (by kernel_rfl) ⟨_, hs, by first | (simp; done) | exact fun e he => List.mem_append_right _ he⟩ (by first | exact Z.Yd.load rfl Try.isAgg3 (fun _ => Z.cellB (by first | ((repeat (first | exact List.mem_cons_self | refine List.mem_cons_of_mem _ ?_ | refine List.mem_append_right _ ?_)); done) | fail) rfl) | exact Z.Yd.load rfl Try.isAgg3 (fun _ => Z.cellO (by assumption) (by simp) (by assumption)) | fail "load 1.16") ?_
    refine Z.yes (s := 19) (b := false) rfl (by simp) rfl ?_
    refine Z.tn 14 rfl rfl (by kernel_rfl) rfl (by exact ⟨rfl, trivial⟩) ?_
    refine Z.ZO.call rfl rfl (by rfl) rfl rfl Try.call23 rfl (ac_Attempts g m _ (hc.st (hs.sub (List.nil_sublist _))) hf) ?_
    rintro v1_14 w1_14 ⟨rfl, hy⟩
    replace hs := hs.call hy
    clear hy
    try simp only [List.cons_append, List.nil_append, List.append_nil] at hs
    refine Z.tk (Dn := fun _ => true) (i := 14) (fun _ => ⟨_, hs, by first | (simp; done) | exact fun e he => List.mem_append_right _ he⟩) ?_
    refine Z.tb [17, 18, 19, 20] (by kernel_rfl) rfl ⟨_, hs, by first | (simp; done) | exact fun e he => List.mem_append_right _ he⟩ rfl ?_
    refine Z.t 22 rfl rfl rfl (by rfl) (by kernel_rfl) ⟨_, hs, by first | (simp; done) | exact fun e he => List.mem_append_right _ he⟩ (by first | exact Z.Yd.loadA _ rfl Try.isAgg51 (fun _ => Z.cellsB (by first | ((repeat (first | exact List.mem_cons_self | refine List.mem_cons_of_mem _ ?_ | refine List.mem_append_right _ ?_)); done) | fail)) (by exact Try.sizeOf51) | fail "load 1.22") ?_
    refine Z.yes (s := 26) (b := false) rfl (by simp) rfl ?_
    refine Z.tn 21 rfl rfl (by kernel_rfl) rfl (by exact ⟨rfl, trivial⟩) ?_
    refine Z.ZO.call rfl rfl (by rfl) rfl rfl Try.call14 rfl (ac_RNTI g m _ (hc.st (hs.sub (List.nil_sublist _))) hf) ?_
    rintro v1_21 w1_21 ⟨rfl, hy⟩
    replace hs := hs.call hy
    clear hy
    try simp only [List.cons_append, List.nil_append, List.append_nil] at hs
    refine Z.tk (Dn := fun _ => true) (i := 21) (fun _ => ⟨_, hs, by first | (simp; done) | exact fun e he => List.mem_append_right _ he⟩) ?_
    refine Z.tn 23 rfl rfl (by kernel_rfl) rfl (by exact ⟨rfl, trivial⟩) ?_
    refine Z.ZO.call rfl rfl (by rfl) rfl rfl Try.call41 rfl (acr_use m _ hf) ?_
    rintro v1_23 w1_23 ⟨rfl, hy⟩
    replace hs := hs.call hy
    clear hy
    try simp only [List.cons_append, List.nil_append, List.append_nil] at hs
    refine Z.tk (Dn := fun _ => true) (i := 23) (fun _ => ⟨_, hs, by first | (simp; done) | exact fun e he => List.mem_append_right _ he⟩) ?_
    refine Z.tb [24, 25] (by kernel_rfl) rfl ⟨_, hs, by first | (simp; done) | exact fun e he => List.mem_append_right _ he⟩ rfl ?_
    refine Z.td (by rfl) (by kernel_rfl) ?_
    refine Z.only [0, 3, 32] rfl ?_
    refine Z.nthen ?_
    refine Z.cond rfl (fun h => absurd h (by simp)) (fun hc1 => ?_)
    refine Z.skip ?_
    refine Z.nthen ?_
    refine Z.seq ?_
    refine Z.region ?_
    refine Z.lb 1 rfl ?_
    refine Z.le rfl trivial ?_
    refine Z.ZO.call rfl rfl (by rfl) rfl rfl Try.call15 rfl (ac_Message3 g m _ (hc.st (hs.sub (List.nil_sublist _))) hf h3) ?_
    rintro v3_1 w3_1 ⟨u, rfl, B, cc, co, rfl, hy⟩
    replace hs := hs.call hy
    clear hy
    try simp only [List.cons_append, List.nil_append, List.append_nil] at hs
    refine Z.lb 3 rfl ?_
    refine Z.le rfl trivial ?_
    refine Z.ZO.alloc rfl rfl (by rfl) Try.zeroValue40 rfl hs ?_
    clear hs; intro g5 w5 hs
    refine Z.le rfl trivial ?_
    first | refine Z.ZO.storeA rfl rfl hs rfl rfl (by kernel_rfl) (by first | (simp [Value.oneCell']; done) | (refine Z.all_one ?_; assumption)) (by first | exact SX.at0 | exact SX.at1 | exact SX.at2 | exact SX.at3 | exact SX.at4 | exact SX.at5 | exact Z.at6 | exact Z.at7 | exact Z.at8 | exact Z.at9 | exact Z.at10 | exact Z.at11 | exact Z.at12) (by rfl) ?_ | refine Z.ZO.storeP rfl rfl hs rfl rfl (by kernel_rfl) (by first | (simp [Value.oneCell']; done) | (refine Z.all_one ?_; assumption)) (by first | exact SX.at0 | exact SX.at1 | exact SX.at2 | exact SX.at3 | exact SX.at4 | exact SX.at5 | exact Z.at6 | exact Z.at7 | exact Z.at8 | exact Z.at9 | exact Z.at10 | exact Z.at11 | exact Z.at12) (by first | decide | (simp; done) | (simp; omega)) ?_ | refine Z.ZO.storePR rfl rfl hs rfl rfl (by kernel_rfl) (by first | (simp [Value.oneCell']; done) | (refine Z.all_one ?_; assumption)) (by first | exact SX.at0 | exact SX.at1 | exact SX.at2 | exact SX.at3 | exact SX.at4 | exact SX.at5 | exact Z.at6 | exact Z.at7 | exact Z.at8 | exact Z.at9 | exact Z.at10 | exact Z.at11 | exact Z.at12) (by first | decide | (simp; done) | (simp; omega)) ?_
    clear hs; intro ws hs
    simp only [Nat.zero_add, Nat.add_zero, Nat.reduceAdd, Int.reduceToNat, Nat.reduceMul, List.set_cons_zero, List.set_cons_succ, List.setIfInBounds_toArray] at hs
    try simp only [Z.putL, Nat.zero_add] at hs
    refine Z.lb 1 rfl ?_
    refine Z.lnil ?_
    refine Z.only [3, 5, 6] rfl ?_
    refine Z.nthen ?_
    refine Z.seq ?_
    refine Z.seq ?_
    refine Z.region ?_
    refine Z.l rfl rfl (by rfl) (Z.keepS hs) (Z.Yd.fieldA (m := 5) rfl (by kernel_rfl)) ?_
    refine Z.l rfl rfl (by rfl) (Z.keepS hs) (by first | exact Z.Yd.load rfl Try.isAgg44 (fun _ => Z.cellB (by first | ((repeat (first | exact List.mem_cons_self | refine List.mem_cons_of_mem _ ?_ | refine List.mem_append_right _ ?_)); done) | fail) rfl) | exact Z.Yd.load rfl Try.isAgg44 (fun _ => Z.cellO (by assumption) (by simp) (by assumption)) | fail "load 4.1") ?_
    refine Z.lb 1 rfl ?_
    refine Z.lnil ?_
    refine Z.only [3, 5, 6, 40] rfl ?_
    refine Z.nthen ?_
    refine Z.cond rfl (fun h => absurd h (by simp [h3])) (fun hc4 => ?_)
    refine Z.skip ?_
    refine Z.nthen ?_
    refine Z.seq ?_
    refine Z.drawK (fun _ => true) mixed hs ?_
    clear hs; intro wd6 hs
    refine Z.tb [0, 1, 2] (by kernel_rfl) rfl ⟨_, hs, by first | (simp; done) | exact fun e he => List.mem_append_right _ he⟩ rfl ?_
    refine Z.t 3 rfl rfl rfl (by rfl) (by kernel_rfl) ⟨_, hs, by first | (simp; done) | exact fun e he => List.mem_append_right _ he⟩ (by first | exact Z.Yd.loadA _ rfl Try.isAgg40 (fun _ => Z.cellsB (by first | ((repeat (first | exact List.mem_cons_self | refine List.mem_cons_of_mem _ ?_ | refine List.mem_append_right _ ?_)); done) | fail)) (by exact Try.sizeOf40) | fail "load 6.3") ?_
    refine Z.t 4 rfl rfl rfl (by rfl) (by kernel_rfl) ⟨_, hs, by first | (simp; done) | exact fun e he => List.mem_append_right _ he⟩ (by first | exact Z.Yd.loadA _ rfl Try.isAgg51 (fun _ => Z.cellsB (by first | ((repeat (first | exact List.mem_cons_self | refine List.mem_cons_of_mem _ ?_ | refine List.mem_append_right _ ?_)); done) | fail)) (by exact Try.sizeOf51) | fail "load 6.4") ?_
    refine Z.yes (s := 50) (b := true) rfl (by simp) rfl ?_
    refine Z.tn 5 rfl rfl (by kernel_rfl) rfl (by exact ⟨rfl, trivial⟩) ?_
    refine Z.ZO.call rfl rfl (by rfl) rfl rfl Try.call42 rfl (acr_message m _ hf) ?_
    rintro v6_5 w6_5 ⟨B2, cc2, co2, rfl, hy⟩
    replace hs := hs.call hy
    clear hy
    try simp only [List.cons_append, List.nil_append, List.append_nil] at hs
    refine Z.tk (Dn := fun _ => true) (i := 5) (fun _ => ⟨_, hs, by first | (simp; done) | exact fun e he => List.mem_append_right _ he⟩) ?_
    refine Z.tn 6 rfl rfl (by kernel_rfl) rfl (by exact ⟨rfl, trivial⟩) ?_
    refine Z.ZO.call rfl rfl (by rfl) rfl rfl Try.call26 rfl (acr_same (msgC m) (msgC m) B B2 _ _ _ _ (msgL m) (msgL m) _ (hs.slm (A := B) (by first | ((repeat (first | exact List.mem_cons_self | refine List.mem_cons_of_mem _ ?_ | refine List.mem_append_right _ ?_)); done) | fail)) (hs.slm (A := B2) (by first | ((repeat (first | exact List.mem_cons_self | refine List.mem_cons_of_mem _ ?_ | refine List.mem_append_right _ ?_)); done) | fail)) rfl rfl hmb hmb) ?_
    rintro v6_6 w6_6 ⟨rfl, hy⟩
    replace hs := hs.call hy
    clear hy
    try simp only [List.cons_append, List.nil_append, List.append_nil] at hs
    refine Z.tk (Dn := fun _ => true) (i := 6) (fun _ => ⟨_, hs, by first | (simp; done) | exact fun e he => List.mem_append_right _ he⟩) ?_
    refine Z.tb [7, 8] (by kernel_rfl) rfl ⟨_, hs, by first | (simp; done) | exact fun e he => List.mem_append_right _ he⟩ rfl ?_
    refine Z.td (by rfl) (by kernel_rfl) ?_
    refine Z.only [4] rfl ?_
    refine Z.nthen ?_
    refine Z.ret ?_
    -- ret#0
    refine Z.out1 (by exact ⟨rfl, trivial⟩) ?_
    exact ⟨_, rfl, by simp, hs.sub (List.nil_sublist _)⟩
  · skip
    refine Z.enter Try.func21 rfl Try.ntmps21 rfl rfl ?_
    refine Z.seq ?_
    refine Z.region ?_
    refine Z.le rfl trivial ?_
    refine Z.ZO.box rfl rfl (by rfl) rfl rfl hs ?_
    clear hs; intro g3 w3 hs
    refine Z.lb 1 rfl ?_
    refine Z.lnil ?_
    refine Z.only [0, 3] rfl ?_
    refine Z.nthen ?_
    refine Z.seq ?_
    refine Z.seq ?_
    refine Z.drawK (fun _ => true) mixed hs ?_
    clear hs; intro wd1 hs
    refine Z.tb [0] (by kernel_rfl) rfl ⟨_, hs, by first | (simp; done) | exact fun e he => List.mem_append_right _ he⟩ rfl ?_
    refine Z.t 2 rfl rfl rfl (by rfl) (by kernel_rfl) ⟨_, hs, by first | (simp; done) | exact fun e he => List.mem_append_right _ he⟩ (Z.Yd.fieldA (m := 5) rfl (by kernel_rfl)) ?_
    refine Z.t 3 rfl rfl rfl (by rfl) (by kernel_rfl) ⟨_, hs, by first | (simp; done) | exact fun e he => List.mem_append_right _ he⟩ (by first | exact Z.Yd.load rfl Try.isAgg44 (fun _ => Z.cellB (by first | ((repeat (first | exact List.mem_cons_self | refine List.mem_cons_of_mem _ ?_ | refine List.mem_append_right _ ?_)); done) | fail) rfl) | exact Z.Yd.load rfl Try.isAgg44 (fun _ => Z.cellO (by assumption) (by simp) (by assumption)) | fail "load 1.3") ?_
    refine Z.tn 1 rfl rfl (by kernel_rfl) rfl trivial ?_
    refine Z.ZO.call rfl rfl (by rfl) rfl rfl Try.call17 rfl (ac_State g m _ (hc.st (hs.sub (List.nil_sublist _))) hf) ?_
    rintro v1_1 w1_1 ⟨rfl, hy⟩
    replace hs := hs.call hy
    clear hy
    try simp only [List.cons_append, List.nil_append, List.append_nil] at hs
    refine Z.tk (Dn := fun _ => true) (i := 1) (fun _ => ⟨_, hs, by first | (simp; done) | exact fun e he => List.mem_append_right _ he⟩) ?_
    refine Z.tb [4, 5, 6] (by kernel_rfl) rfl ⟨_, hs, by first | (simp; done) | exact fun e he => List.mem_append_right _ he⟩ rfl ?_
    refine Z.t 8 rfl rfl rfl (by rfl) (by kernel_rfl) ⟨_, hs, by first | (simp; done) | exact fun e he => List.mem_append_right _ he⟩ (Z.Yd.fieldA (m := 7) rfl (by kernel_rfl)) ?_
    refine Z.t 9 rfl rfl rfl (by rfl) (by kernel_rfl) ⟨_, hs, by first | (simp; done) | exact fun e he => List.mem_append_right _ he⟩ (by first | exact Z.Yd.load rfl Try.isAgg3 (fun _ => Z.cellB (by first | ((repeat (first | exact List.mem_cons_self | refine List.mem_cons_of_mem _ ?_ | refine List.mem_append_right _ ?_)); done) | fail) rfl) | exact Z.Yd.load rfl Try.isAgg3 (fun _ => Z.cellO (by assumption) (by simp) (by assumption)) | fail "load 1.9") ?_
    refine Z.yes (s := 12) (b := false) rfl (by simp) rfl ?_
    refine Z.tn 7 rfl rfl (by kernel_rfl) rfl (by exact ⟨rfl, trivial⟩) ?_
    refine Z.ZO.call rfl rfl (by rfl) rfl rfl Try.call18 rfl (ac_Due g m _ (hc.st (hs.sub (List.nil_sublist _))) hf) ?_
    rintro v1_7 w1_7 ⟨rfl, hy⟩
    replace hs := hs.call hy
    clear hy
    try simp only [List.cons_append, List.nil_append, List.append_nil] at hs
    refine Z.tk (Dn := fun _ => true) (i := 7) (fun _ => ⟨_, hs, by first | (simp; done) | exact fun e he => List.mem_append_right _ he⟩) ?_
    refine Z.tb [10, 11, 12, 13] (by kernel_rfl) rfl ⟨_, hs, by first | (simp; done) | exact fun e he => List.mem_append_right _ he⟩ rfl ?_
    refine Z.t 15 rfl rfl rfl (by rfl) (by kernel_rfl) ⟨_, hs, by first | (simp; done) | exact fun e he => List.mem_append_right _ he⟩ (Z.Yd.fieldA (m := 10) rfl (by kernel_rfl)) ?_
    refine Z.t 16 rfl rfl rfl (by rfl) (by kernel_rfl) ⟨_, hs, by first | (simp; done) | exact fun e he => List.mem_append_right _ he⟩ (by first | exact Z.Yd.load rfl Try.isAgg3 (fun _ => Z.cellB (by first | ((repeat (first | exact List.mem_cons_self | refine List.mem_cons_of_mem _ ?_ | refine List.mem_append_right _ ?_)); done) | fail) rfl) | exact Z.Yd.load rfl Try.isAgg3 (fun _ => Z.cellO (by assumption) (by simp) (by assumption)) | fail "load 1.16") ?_
    refine Z.yes (s := 19) (b := false) rfl (by simp) rfl ?_
    refine Z.tn 14 rfl rfl (by kernel_rfl) rfl (by exact ⟨rfl, trivial⟩) ?_
    refine Z.ZO.call rfl rfl (by rfl) rfl rfl Try.call23 rfl (ac_Attempts g m _ (hc.st (hs.sub (List.nil_sublist _))) hf) ?_
    rintro v1_14 w1_14 ⟨rfl, hy⟩
    replace hs := hs.call hy
    clear hy
    try simp only [List.cons_append, List.nil_append, List.append_nil] at hs
    refine Z.tk (Dn := fun _ => true) (i := 14) (fun _ => ⟨_, hs, by first | (simp; done) | exact fun e he => List.mem_append_right _ he⟩) ?_
    refine Z.tb [17, 18, 19, 20] (by kernel_rfl) rfl ⟨_, hs, by first | (simp; done) | exact fun e he => List.mem_append_right _ he⟩ rfl ?_
    refine Z.t 22 rfl rfl rfl (by rfl) (by kernel_rfl) ⟨_, hs, by first | (simp; done) | exact fun e he => List.mem_append_right _ he⟩ (by first | exact Z.Yd.loadA _ rfl Try.isAgg51 (fun _ => Z.cellsB (by first | ((repeat (first | exact List.mem_cons_self | refine List.mem_cons_of_mem _ ?_ | refine List.mem_append_right _ ?_)); done) | fail)) (by exact Try.sizeOf51) | fail "load 1.22") ?_
    refine Z.yes (s := 26) (b := false) rfl (by simp) rfl ?_
    refine Z.tn 21 rfl rfl (by kernel_rfl) rfl (by exact ⟨rfl, trivial⟩) ?_
    refine Z.ZO.call rfl rfl (by rfl) rfl rfl Try.call14 rfl (ac_RNTI g m _ (hc.st (hs.sub (List.nil_sublist _))) hf) ?_
    rintro v1_21 w1_21 ⟨rfl, hy⟩
    replace hs := hs.call hy
    clear hy
    try simp only [List.cons_append, List.nil_append, List.append_nil] at hs
    refine Z.tk (Dn := fun _ => true) (i := 21) (fun _ => ⟨_, hs, by first | (simp; done) | exact fun e he => List.mem_append_right _ he⟩) ?_
    refine Z.tn 23 rfl rfl (by kernel_rfl) rfl (by exact ⟨rfl, trivial⟩) ?_
    refine Z.ZO.call rfl rfl (by rfl) rfl rfl Try.call41 rfl (acr_use m _ hf) ?_
    rintro v1_23 w1_23 ⟨rfl, hy⟩
    replace hs := hs.call hy
    clear hy
    try simp only [List.cons_append, List.nil_append, List.append_nil] at hs
    refine Z.tk (Dn := fun _ => true) (i := 23) (fun _ => ⟨_, hs, by first | (simp; done) | exact fun e he => List.mem_append_right _ he⟩) ?_
    refine Z.tb [24, 25] (by kernel_rfl) rfl ⟨_, hs, by first | (simp; done) | exact fun e he => List.mem_append_right _ he⟩ rfl ?_
    refine Z.td (by rfl) (by kernel_rfl) ?_
    refine Z.only [0, 3, 32] rfl ?_
    refine Z.nthen ?_
    refine Z.cond rfl (fun h => absurd h (by simp)) (fun hc1 => ?_)
    refine Z.skip ?_
    refine Z.nthen ?_
    refine Z.seq ?_
    refine Z.region ?_
    refine Z.lb 1 rfl ?_
    refine Z.le rfl trivial ?_
    refine Z.ZO.call rfl rfl (by rfl) rfl rfl Try.call15 rfl (ac_MessageN g m _ (hc.st (hs.sub (List.nil_sublist _))) hf h3) ?_
    rintro v3_1 w3_1 ⟨rfl, hy⟩
    replace hs := hs.call hy
    clear hy
    try simp only [List.cons_append, List.nil_append, List.append_nil] at hs
    refine Z.lb 3 rfl ?_
    refine Z.le rfl trivial ?_
    refine Z.ZO.alloc rfl rfl (by rfl) Try.zeroValue40 rfl hs ?_
    clear hs; intro g5 w5 hs
    refine Z.le rfl trivial ?_
    first | refine Z.ZO.storeA rfl rfl hs rfl rfl (by kernel_rfl) (by first | (simp [Value.oneCell']; done) | (refine Z.all_one ?_; assumption)) (by first | exact SX.at0 | exact SX.at1 | exact SX.at2 | exact SX.at3 | exact SX.at4 | exact SX.at5 | exact Z.at6 | exact Z.at7 | exact Z.at8 | exact Z.at9 | exact Z.at10 | exact Z.at11 | exact Z.at12) (by rfl) ?_ | refine Z.ZO.storeP rfl rfl hs rfl rfl (by kernel_rfl) (by first | (simp [Value.oneCell']; done) | (refine Z.all_one ?_; assumption)) (by first | exact SX.at0 | exact SX.at1 | exact SX.at2 | exact SX.at3 | exact SX.at4 | exact SX.at5 | exact Z.at6 | exact Z.at7 | exact Z.at8 | exact Z.at9 | exact Z.at10 | exact Z.at11 | exact Z.at12) (by first | decide | (simp; done) | (simp; omega)) ?_ | refine Z.ZO.storePR rfl rfl hs rfl rfl (by kernel_rfl) (by first | (simp [Value.oneCell']; done) | (refine Z.all_one ?_; assumption)) (by first | exact SX.at0 | exact SX.at1 | exact SX.at2 | exact SX.at3 | exact SX.at4 | exact SX.at5 | exact Z.at6 | exact Z.at7 | exact Z.at8 | exact Z.at9 | exact Z.at10 | exact Z.at11 | exact Z.at12) (by first | decide | (simp; done) | (simp; omega)) ?_
    clear hs; intro ws hs
    simp only [Nat.zero_add, Nat.add_zero, Nat.reduceAdd, Int.reduceToNat, Nat.reduceMul, List.set_cons_zero, List.set_cons_succ, List.setIfInBounds_toArray] at hs
    try simp only [Z.putL, Nat.zero_add] at hs
    refine Z.lb 1 rfl ?_
    refine Z.lnil ?_
    refine Z.only [3, 5, 6] rfl ?_
    refine Z.nthen ?_
    refine Z.seq ?_
    refine Z.seq ?_
    refine Z.region ?_
    refine Z.l rfl rfl (by rfl) (Z.keepS hs) (Z.Yd.fieldA (m := 5) rfl (by kernel_rfl)) ?_
    refine Z.l rfl rfl (by rfl) (Z.keepS hs) (by first | exact Z.Yd.load rfl Try.isAgg44 (fun _ => Z.cellB (by first | ((repeat (first | exact List.mem_cons_self | refine List.mem_cons_of_mem _ ?_ | refine List.mem_append_right _ ?_)); done) | fail) rfl) | exact Z.Yd.load rfl Try.isAgg44 (fun _ => Z.cellO (by assumption) (by simp) (by assumption)) | fail "load 4.1") ?_
    refine Z.lb 1 rfl ?_
    refine Z.lnil ?_
    refine Z.only [3, 5, 6, 40] rfl ?_
    refine Z.nthen ?_
    refine Z.cond rfl (fun hc4 => ?_) (fun h => absurd h (by simp [h3]))
    refine Z.seq ?_
    refine Z.region ?_
    refine Z.lb 3 rfl ?_
    refine Z.yes (s := 43) (b := true) rfl ((by simp)) rfl ?_
    refine Z.l rfl rfl (by rfl) (Z.keepS hs) (by first | exact Z.Yd.loadA _ rfl Try.isAgg40 (fun _ => Z.cellsB (by first | ((repeat (first | exact List.mem_cons_self | refine List.mem_cons_of_mem _ ?_ | refine List.mem_append_right _ ?_)); done) | fail)) (by exact Try.sizeOf40) | fail "load 5.3") ?_
    refine Z.l rfl rfl (by rfl) (Z.keepS hs) (Z.Yd.buildL [(0, 1), (1, 1)] [.int .i64 0, .slice none 0 0] rfl rfl (by intro w; kernel_rfl)) ?_
    refine Z.yes (s := 43) (b := true) rfl rfl rfl ?_
    refine Z.le rfl (by exact ⟨rfl, trivial⟩) ?_
    refine Z.ZO.call rfl rfl (by rfl) rfl rfl Try.call26 rfl (acr_same 0 0 none none 0 0 0 0 [] [] _ sl_nil sl_nil rfl rfl (by simp) (by simp)) ?_
    rintro v5_5 w5_5 ⟨rfl, hy⟩
    replace hs := hs.call hy
    clear hy
    try simp only [List.cons_append, List.nil_append, List.append_nil] at hs
    refine Z.l rfl rfl (by rfl) (Z.keepS hs) (Z.Yd.pickT rfl rfl) ?_
    refine Z.lb 1 rfl ?_
    refine Z.lnil ?_
    refine Z.only [4] rfl ?_
    refine Z.nthen ?_
    refine Z.ret ?_
    repeat (first | refine Z.rthen ?_ | refine Z.rblock ?_ | refine Z.rscope ?_)
    -- ret#0
    refine Z.out1 (by exact ⟨rfl, trivial⟩) ?_
    exact ⟨_, rfl, by simp, hs.sub (List.nil_sublist _)⟩
structure AxV where
  k : Int
  t : Int
  d : Int
  p : Int
  r : Int
  b : Int
  lc : Int
  A : Option Addr
  c : Nat
  l : List Int
def AxV.cells (x : AxV) : List Value := [.int .i64 x.k, .int .i64 x.t, .int .i64 x.d, .int .i64 x.p, .int .i64 x.r, .int .i64 x.b, .int .i64 x.lc, .slice x.A x.l.length x.c]
theorem ax_one (x : AxV) : ∀ u ∈ x.cells, u.oneCell' = true := by intro u hu; simp [AxV.cells] at hu; rcases hu with rfl | rfl | rfl | rfl | rfl | rfl | rfl | rfl <;> rfl
structure GoodX (w : World) (M : List Nat) (x : AxV) : Prop where
  sx : Sx w M x.A (ints .u8 x.l)
  by8 : Byts x.l
  len : x.l.length ≤ 140737488351232
def doV (m : AcV) (x : AxV) : AcV :=
  if x.k = 0 then (startV m x.t).1 else if x.k = 1 then (sendV m x.t x.d).1 else if x.k = 2 then (answerV m x.t x.p x.r x.b).1
  else if x.k = 3 then (resolveV m x.t x.lc x.l).1 else if x.k = 5 then (resolveV m x.t (msgC m) (msgL m)).1 else if x.k = 4 then tickR m x.t else m
theorem AcV.ok.doV {m : AcV} (h : m.ok) (x : AxV) : (Go.Proofs.Ytjgfooakcljddaa.doV m x).ok := by
  unfold Go.Proofs.Ytjgfooakcljddaa.doV
  split
  · exact h.start _
  split
  · exact h.send _ _
  split
  · exact h.answer _ _ _ _
  split
  · exact h.resolve _ _ _
  split
  · exact h.resolve _ _ _
  split
  · exact h.tickR _
  · exact h
end Go.Proofs.Ytjgfooakcljddaa

/- Random access of a handset: a step of each kind, on both sides. -/
namespace Go.Proofs.Ytjgfooakcljddaa
open Go.RowKit
set_option linter.unusedSimpArgs false
set_option linter.unusedVariables false
--newlaws

set_option maxHeartbeats 1000000 in
set_option maxRecDepth 100000 in
theorem ac_do0 (g T : Nat) (m : AcV) (x : AxV) (w : World) (hs : SX.St w (SX.idsOf [SX.Ent.blk g T m.cells.toArray]) w [SX.Ent.blk g T m.cells.toArray]) (hm : m.ok) (hx : GoodX w (SX.idsOf [SX.Ent.blk g T m.cells.toArray]) x) (hk : x.k = 0) :
    Calls Try.prog 22 #[.pointer (some ⟨g, 0, none⟩), .agg m.cells.toArray, .agg x.cells.toArray] w (SX.Ret fun v w' => v = .tuple #[.agg ((startV m x.t).1).cells.toArray, .bool true] ∧ SX.St w (SX.idsOf [SX.Ent.blk g T m.cells.toArray]) w' [SX.Ent.blk g T ((startV m x.t).1).cells.toArray]) := by
  generalize hM : SX.idsOf [SX.Ent.blk g T m.cells.toArray] = M at *
  have hone0 := ac_one m
  have hone1 := ax_one x
  have hone := ac_one ((startV m x.t).1)
  refine Z.enter Try.func22 rfl Try.ntmps22 rfl rfl ?_
  refine Z.seq ?_
  refine Z.region ?_
  refine Z.le rfl trivial ?_
  refine Z.ZO.box rfl rfl (by rfl) rfl rfl hs ?_
  clear hs; intro g4 w4 hs
  refine Z.le rfl trivial ?_
  refine Z.ZO.box rfl rfl (by rfl) rfl rfl hs ?_
  clear hs; intro g5 w5 hs
  refine Z.le rfl trivial ?_
  refine Z.ZO.alloc rfl rfl (by rfl) Try.zeroValue51 rfl hs ?_
  clear hs; intro g6 w6 hs
  refine Z.lb 1 rfl ?_
  refine Z.lnil ?_
  refine Z.only [0, 4, 5, 6] rfl ?_
  refine Z.nthen ?_
  refine Z.seq ?_
  refine Z.seq ?_
  refine Z.region ?_
  refine Z.l rfl rfl (by rfl) (Z.keepS hs) (Z.Yd.fieldA (m := 0) rfl (by kernel_rfl)) ?_
  refine Z.l rfl rfl (by rfl) (Z.keepS hs) (Z.Yd.load rfl Try.isAgg3 (fun _ => Z.cellB (cs := x.cells.toArray) (by first | ((repeat (first | exact List.mem_cons_self | refine List.mem_cons_of_mem _ ?_ | refine List.mem_append_right _ ?_)); done) | fail) rfl)) ?_
  refine Z.lnil ?_
  refine Z.only [0, 4, 5, 6, 31] rfl ?_
  refine Z.nthen ?_
  refine Z.block ?_
  refine Z.seq ?_
  refine Z.region ?_
  refine Z.lb 2 rfl ?_
  refine Z.lnil ?_
  refine Z.only [0, 4, 5, 6, 31, 32] rfl ?_
  refine Z.nthen ?_
  refine Z.cond rfl (fun hc2 => ?_) (fun h => absurd h (by simp [hk]))
  refine Z.seq ?_
  refine Z.region ?_
  refine Z.lb 1 rfl ?_
  refine Z.l rfl rfl (by rfl) (Z.keepS hs) (Z.Yd.fieldA (m := 1) rfl (by kernel_rfl)) ?_
  refine Z.l rfl rfl (by rfl) (Z.keepS hs) (Z.Yd.load rfl Try.isAgg3 (fun _ => Z.cellB (cs := x.cells.toArray) (by first | ((repeat (first | exact List.mem_cons_self | refine List.mem_cons_of_mem _ ?_ | refine List.mem_append_right _ ?_)); done) | fail) rfl)) ?_
  replace hs : SX.St w M _ ([SX.Ent.blk g T m.cells.toArray] ++ [_, _, _]) := hs.sel [3, 0, 1, 2] (by decide)
  refine Z.le rfl trivial ?_
  refine Z.ZO.call rfl rfl (by rfl) rfl rfl Try.call11 rfl (ac_start g T m x.t _ hs.lend hm) ?_
  rintro v3_3 w3_3 ⟨rfl, hz⟩
  replace hs := hs.regain hz
  simp only [List.cons_append, List.nil_append] at hs
  refine Z.lb 1 rfl ?_
  refine Z.lnil ?_
  refine Z.only [0, 4, 5, 6, 8] rfl ?_
  refine Z.nthen ?_
  refine Z.seq ?_
  refine Z.region ?_
  refine Z.l rfl rfl (by rfl) (Z.keepS hs) (Z.Yd.loadA _ rfl Try.isAgg51 (fun _ => Z.cellsB (cs := m.cells) (by first | ((repeat (first | exact List.mem_cons_self | refine List.mem_cons_of_mem _ ?_ | refine List.mem_append_right _ ?_)); done) | fail)) (by exact Try.sizeOf51)) ?_
  refine Z.l rfl rfl (by rfl) (Z.keepS hs) (Z.Yd.fieldA (m := 1) rfl (by kernel_rfl)) ?_
  refine Z.l rfl rfl (by rfl) (Z.keepS hs) (Z.Yd.load rfl Try.isAgg3 (fun _ => Z.cellB (cs := x.cells.toArray) (by first | ((repeat (first | exact List.mem_cons_self | refine List.mem_cons_of_mem _ ?_ | refine List.mem_append_right _ ?_)); done) | fail) rfl)) ?_
  refine Z.le rfl trivial ?_
  refine Z.ZO.call rfl rfl (by rfl) rfl rfl Try.call43 rfl (acr_start m x.t _ hm) ?_
  rintro v4_3 w4_3 ⟨rfl, hy⟩
  replace hs := hs.call hy
  clear hy
  try simp only [List.cons_append, List.nil_append, List.append_nil] at hs
  refine Z.lb 3 rfl ?_
  refine Z.le rfl trivial ?_
  refine Z.ZO.alloc rfl rfl (by rfl) Try.zeroValue51 rfl hs ?_
  clear hs; intro g9 w9 hs
  refine Z.le rfl trivial ?_
  first | refine Z.ZO.storeA rfl rfl hs rfl rfl (by kernel_rfl) (by first | (simp [Value.oneCell']; done) | (refine Z.all_one ?_; assumption)) (by first | exact SX.at0 | exact SX.at1 | exact SX.at2 | exact SX.at3 | exact SX.at4 | exact SX.at5 | exact Z.at6 | exact Z.at7 | exact Z.at8 | exact Z.at9 | exact Z.at10 | exact Z.at11 | exact Z.at12) (by rfl) ?_ | refine Z.ZO.storeP rfl rfl hs rfl rfl (by kernel_rfl) (by first | (simp [Value.oneCell']; done) | (refine Z.all_one ?_; assumption)) (by first | exact SX.at0 | exact SX.at1 | exact SX.at2 | exact SX.at3 | exact SX.at4 | exact SX.at5 | exact Z.at6 | exact Z.at7 | exact Z.at8 | exact Z.at9 | exact Z.at10 | exact Z.at11 | exact Z.at12) (by first | decide | (simp; done) | (simp; omega)) ?_ | refine Z.ZO.storePR rfl rfl hs rfl rfl (by kernel_rfl) (by first | (simp [Value.oneCell']; done) | (refine Z.all_one ?_; assumption)) (by first | exact SX.at0 | exact SX.at1 | exact SX.at2 | exact SX.at3 | exact SX.at4 | exact SX.at5 | exact Z.at6 | exact Z.at7 | exact Z.at8 | exact Z.at9 | exact Z.at10 | exact Z.at11 | exact Z.at12) (by first | decide | (simp; done) | (simp; omega)) ?_
  clear hs; intro ws hs
  simp only [Nat.zero_add, Nat.add_zero, Nat.reduceAdd, Int.reduceToNat, Nat.reduceMul, List.set_cons_zero, List.set_cons_succ, List.setIfInBounds_toArray] at hs
  try simp only [Z.putL, Nat.zero_add] at hs
  refine Z.lb 1 rfl ?_
  refine Z.lnil ?_
  refine Z.only [0, 6, 8, 9, 10] rfl ?_
  refine Z.nthen ?_
  refine Z.seq ?_
  refine Z.drawL [SX.Ent.blk g9 51 ((startV m x.t).1).cells.toArray, SX.Ent.blk g T ((startV m x.t).1).cells.toArray] (fun _ => true) mixed hs ?_
  clear hs; intro wd5 hs
  refine Z.t 0 rfl rfl rfl (by rfl) (by kernel_rfl) ⟨_, hs, by first | (simp; done) | exact fun e he => List.mem_append_right _ he⟩ (Z.Yd.loadA _ rfl Try.isAgg51 (fun _ => Z.cellsB (cs := (startV m x.t).1.cells) (by first | ((repeat (first | exact List.mem_cons_self | refine List.mem_cons_of_mem _ ?_ | refine List.mem_append_right _ ?_)); done) | fail)) (by exact Try.sizeOf51)) ?_
  refine Z.tb [1, 2, 3, 4, 5] (by kernel_rfl) rfl ⟨_, hs, by first | (simp; done) | exact fun e he => List.mem_append_right _ he⟩ rfl ?_
  refine Z.t 6 rfl rfl rfl (by rfl) (by kernel_rfl) ⟨_, hs, by first | (simp; done) | exact fun e he => List.mem_append_right _ he⟩ (Z.Yd.loadA _ rfl Try.isAgg51 (fun _ => Z.cellsB (cs := (startV m x.t).1.cells) (by first | ((repeat (first | exact List.mem_cons_self | refine List.mem_cons_of_mem _ ?_ | refine List.mem_append_right _ ?_)); done) | fail)) (by exact Try.sizeOf51)) ?_
  refine Z.yes (s := 49) (b := true) rfl (by simp) rfl ?_
  refine Z.tn 7 rfl rfl (by kernel_rfl) rfl (by exact ⟨rfl, trivial⟩) ?_
  refine Z.ZO.call rfl rfl (by rfl) rfl rfl Try.call21 rfl (ac_agrees g (startV m x.t).1 _ (hs.celOf (cs := (startV m x.t).1.cells) (by first | ((repeat (first | exact List.mem_cons_self | refine List.mem_cons_of_mem _ ?_ | refine List.mem_append_right _ ?_)); done) | fail)) (hm.start _).cfg) ?_
  rintro v5_7 w5_7 ⟨rfl, hy⟩
  replace hs := hs.call hy
  clear hy
  try simp only [List.cons_append, List.nil_append, List.append_nil] at hs
  refine Z.tk (Dn := fun _ => true) (i := 7) (fun _ => ⟨_, hs, by first | (simp; done) | exact fun e he => List.mem_append_right _ he⟩) ?_
  refine Z.tb [8] (by kernel_rfl) rfl ⟨_, hs, by first | (simp; done) | exact fun e he => List.mem_append_right _ he⟩ rfl ?_
  refine Z.tn 9 rfl rfl (by kernel_rfl) rfl trivial ?_
  first | refine Z.ZO.storeA rfl rfl hs rfl rfl (by kernel_rfl) (by first | (simp [Value.oneCell']; done) | (refine Z.all_one ?_; assumption)) (by first | exact SX.at0 | exact SX.at1 | exact SX.at2 | exact SX.at3 | exact SX.at4 | exact SX.at5 | exact Z.at6 | exact Z.at7 | exact Z.at8 | exact Z.at9 | exact Z.at10 | exact Z.at11 | exact Z.at12) (by rfl) ?_ | refine Z.ZO.storeP rfl rfl hs rfl rfl (by kernel_rfl) (by first | (simp [Value.oneCell']; done) | (refine Z.all_one ?_; assumption)) (by first | exact SX.at0 | exact SX.at1 | exact SX.at2 | exact SX.at3 | exact SX.at4 | exact SX.at5 | exact Z.at6 | exact Z.at7 | exact Z.at8 | exact Z.at9 | exact Z.at10 | exact Z.at11 | exact Z.at12) (by first | decide | (simp; done) | (simp; omega)) ?_ | refine Z.ZO.storePR rfl rfl hs rfl rfl (by kernel_rfl) (by first | (simp [Value.oneCell']; done) | (refine Z.all_one ?_; assumption)) (by first | exact SX.at0 | exact SX.at1 | exact SX.at2 | exact SX.at3 | exact SX.at4 | exact SX.at5 | exact Z.at6 | exact Z.at7 | exact Z.at8 | exact Z.at9 | exact Z.at10 | exact Z.at11 | exact Z.at12) (by first | decide | (simp; done) | (simp; omega)) ?_
  clear hs; intro ws hs
  simp only [Nat.zero_add, Nat.add_zero, Nat.reduceAdd, Int.reduceToNat, Nat.reduceMul, List.set_cons_zero, List.set_cons_succ, List.setIfInBounds_toArray] at hs
  try simp only [Z.putL, Nat.zero_add] at hs
  refine Z.tk (Dn := fun _ => true) (i := 9) (fun _ => ⟨_, hs, by first | (simp; done) | exact fun e he => List.mem_append_right _ he⟩) ?_
  refine Z.tb [10] (by kernel_rfl) rfl ⟨_, hs, by first | (simp; done) | exact fun e he => List.mem_append_right _ he⟩ rfl ?_
  refine Z.td (by rfl) (by kernel_rfl) ?_
  refine Z.only [6, 7] rfl ?_
  refine Z.nthen ?_
  refine Z.ret ?_
  repeat (first | refine Z.rthen ?_ | refine Z.rblock ?_ | refine Z.rscope ?_)
  -- ret#0
  refine Z.out2 (by exact ⟨⟨_, rfl, Z.rvcA hs Try.isAgg51 (by first | ((repeat (first | exact List.mem_cons_self | refine List.mem_cons_of_mem _ ?_ | refine List.mem_append_right _ ?_)); done) | fail) (by exact Try.sizeOf51)⟩, rfl, trivial⟩) ?_
  exact ⟨_, rfl, rfl, hs.sel [1] (by decide)⟩
set_option maxHeartbeats 1000000 in
set_option maxRecDepth 100000 in
theorem ac_do1 (g T : Nat) (m : AcV) (x : AxV) (w : World) (hs : SX.St w (SX.idsOf [SX.Ent.blk g T m.cells.toArray]) w [SX.Ent.blk g T m.cells.toArray]) (hm : m.ok) (hx : GoodX w (SX.idsOf [SX.Ent.blk g T m.cells.toArray]) x) (hk : x.k = 1) :
    Calls Try.prog 22 #[.pointer (some ⟨g, 0, none⟩), .agg m.cells.toArray, .agg x.cells.toArray] w (SX.Ret fun v w' => v = .tuple #[.agg ((sendV m x.t x.d).1).cells.toArray, .bool true] ∧ SX.St w (SX.idsOf [SX.Ent.blk g T m.cells.toArray]) w' [SX.Ent.blk g T ((sendV m x.t x.d).1).cells.toArray]) := by
  generalize hM : SX.idsOf [SX.Ent.blk g T m.cells.toArray] = M at *
  have hone0 := ac_one m
  have hone1 := ax_one x
  have hone := ac_one ((sendV m x.t x.d).1)
  refine Z.enter Try.func22 rfl Try.ntmps22 rfl rfl ?_
  refine Z.seq ?_
  refine Z.region ?_
  refine Z.le rfl trivial ?_
  refine Z.ZO.box rfl rfl (by rfl) rfl rfl hs ?_
  clear hs; intro g4 w4 hs
  refine Z.le rfl trivial ?_
  refine Z.ZO.box rfl rfl (by rfl) rfl rfl hs ?_
  clear hs; intro g5 w5 hs
  refine Z.le rfl trivial ?_
  refine Z.ZO.alloc rfl rfl (by rfl) Try.zeroValue51 rfl hs ?_
  clear hs; intro g6 w6 hs
  refine Z.lb 1 rfl ?_
  refine Z.lnil ?_
  refine Z.only [0, 4, 5, 6] rfl ?_
  refine Z.nthen ?_
  refine Z.seq ?_
  refine Z.seq ?_
  refine Z.region ?_
  refine Z.l rfl rfl (by rfl) (Z.keepS hs) (Z.Yd.fieldA (m := 0) rfl (by kernel_rfl)) ?_
  refine Z.l rfl rfl (by rfl) (Z.keepS hs) (Z.Yd.load rfl Try.isAgg3 (fun _ => Z.cellB (cs := x.cells.toArray) (by first | ((repeat (first | exact List.mem_cons_self | refine List.mem_cons_of_mem _ ?_ | refine List.mem_append_right _ ?_)); done) | fail) rfl)) ?_
  refine Z.lnil ?_
  refine Z.only [0, 4, 5, 6, 31] rfl ?_
  refine Z.nthen ?_
  refine Z.block ?_
  refine Z.seq ?_
  refine Z.region ?_
  refine Z.lb 2 rfl ?_
  refine Z.lnil ?_
  refine Z.only [0, 4, 5, 6, 31, 32] rfl ?_
  refine Z.nthen ?_
  refine Z.cond rfl (fun h => absurd h (by simp [hk])) (fun hc2 => ?_)
  refine Z.seq ?_
  refine Z.region ?_
  refine Z.lb 2 rfl ?_
  refine Z.lnil ?_
  refine Z.only [0, 4, 5, 6, 31, 54] rfl ?_
  refine Z.nthen ?_
  refine Z.cond rfl (fun hc6 => ?_) (fun h => absurd h (by simp [hk]))
  refine Z.seq ?_
  refine Z.region ?_
  refine Z.lb 1 rfl ?_
  refine Z.l rfl rfl (by rfl) (Z.keepS hs) (Z.Yd.fieldA (m := 1) rfl (by kernel_rfl)) ?_
  refine Z.l rfl rfl (by rfl) (Z.keepS hs) (Z.Yd.load rfl Try.isAgg3 (fun _ => Z.cellB (cs := x.cells.toArray) (by first | ((repeat (first | exact List.mem_cons_self | refine List.mem_cons_of_mem _ ?_ | refine List.mem_append_right _ ?_)); done) | fail) rfl)) ?_
  refine Z.l rfl rfl (by rfl) (Z.keepS hs) (Z.Yd.fieldA (m := 2) rfl (by kernel_rfl)) ?_
  refine Z.l rfl rfl (by rfl) (Z.keepS hs) (Z.Yd.load rfl Try.isAgg3 (fun _ => Z.cellB (cs := x.cells.toArray) (by first | ((repeat (first | exact List.mem_cons_self | refine List.mem_cons_of_mem _ ?_ | refine List.mem_append_right _ ?_)); done) | fail) rfl)) ?_
  replace hs : SX.St w M _ ([SX.Ent.blk g T m.cells.toArray] ++ [_, _, _]) := hs.sel [3, 0, 1, 2] (by decide)
  refine Z.le rfl trivial ?_
  refine Z.ZO.call rfl rfl (by rfl) rfl rfl Try.call12 rfl (ac_send g T m x.t x.d _ hs.lend hm) ?_
  rintro v7_5 w7_5 ⟨rfl, hz⟩
  replace hs := hs.regain hz
  simp only [List.cons_append, List.nil_append] at hs
  refine Z.lb 5 rfl ?_
  refine Z.lnil ?_
  refine Z.only [0, 4, 5, 6, 11, 12] rfl ?_
  refine Z.nthen ?_
  refine Z.seq ?_
  refine Z.region ?_
  refine Z.l rfl rfl (by rfl) (Z.keepS hs) (Z.Yd.loadA _ rfl Try.isAgg51 (fun _ => Z.cellsB (cs := m.cells) (by first | ((repeat (first | exact List.mem_cons_self | refine List.mem_cons_of_mem _ ?_ | refine List.mem_append_right _ ?_)); done) | fail)) (by exact Try.sizeOf51)) ?_
  refine Z.l rfl rfl (by rfl) (Z.keepS hs) (Z.Yd.fieldA (m := 1) rfl (by kernel_rfl)) ?_
  refine Z.l rfl rfl (by rfl) (Z.keepS hs) (Z.Yd.load rfl Try.isAgg3 (fun _ => Z.cellB (cs := x.cells.toArray) (by first | ((repeat (first | exact List.mem_cons_self | refine List.mem_cons_of_mem _ ?_ | refine List.mem_append_right _ ?_)); done) | fail) rfl)) ?_
  refine Z.l rfl rfl (by rfl) (Z.keepS hs) (Z.Yd.fieldA (m := 2) rfl (by kernel_rfl)) ?_
  refine Z.l rfl rfl (by rfl) (Z.keepS hs) (Z.Yd.load rfl Try.isAgg3 (fun _ => Z.cellB (cs := x.cells.toArray) (by first | ((repeat (first | exact List.mem_cons_self | refine List.mem_cons_of_mem _ ?_ | refine List.mem_append_right _ ?_)); done) | fail) rfl)) ?_
  refine Z.le rfl trivial ?_
  refine Z.ZO.call rfl rfl (by rfl) rfl rfl Try.call44 rfl (acr_send m x.t x.d _ hm) ?_
  rintro v8_5 w8_5 ⟨rfl, hy⟩
  replace hs := hs.call hy
  clear hy
  try simp only [List.cons_append, List.nil_append, List.append_nil] at hs
  refine Z.lb 4 rfl ?_
  refine Z.le rfl trivial ?_
  refine Z.ZO.alloc rfl rfl (by rfl) Try.zeroValue51 rfl hs ?_
  clear hs; intro g13 w13 hs
  refine Z.le rfl trivial ?_
  first | refine Z.ZO.storeA rfl rfl hs rfl rfl (by kernel_rfl) (by first | (simp [Value.oneCell']; done) | (refine Z.all_one ?_; assumption)) (by first | exact SX.at0 | exact SX.at1 | exact SX.at2 | exact SX.at3 | exact SX.at4 | exact SX.at5 | exact Z.at6 | exact Z.at7 | exact Z.at8 | exact Z.at9 | exact Z.at10 | exact Z.at11 | exact Z.at12) (by rfl) ?_ | refine Z.ZO.storeP rfl rfl hs rfl rfl (by kernel_rfl) (by first | (simp [Value.oneCell']; done) | (refine Z.all_one ?_; assumption)) (by first | exact SX.at0 | exact SX.at1 | exact SX.at2 | exact SX.at3 | exact SX.at4 | exact SX.at5 | exact Z.at6 | exact Z.at7 | exact Z.at8 | exact Z.at9 | exact Z.at10 | exact Z.at11 | exact Z.at12) (by first | decide | (simp; done) | (simp; omega)) ?_ | refine Z.ZO.storePR rfl rfl hs rfl rfl (by kernel_rfl) (by first | (simp [Value.oneCell']; done) | (refine Z.all_one ?_; assumption)) (by first | exact SX.at0 | exact SX.at1 | exact SX.at2 | exact SX.at3 | exact SX.at4 | exact SX.at5 | exact Z.at6 | exact Z.at7 | exact Z.at8 | exact Z.at9 | exact Z.at10 | exact Z.at11 | exact Z.at12) (by first | decide | (simp; done) | (simp; omega)) ?_
  clear hs; intro ws hs
  simp only [Nat.zero_add, Nat.add_zero, Nat.reduceAdd, Int.reduceToNat, Nat.reduceMul, List.set_cons_zero, List.set_cons_succ, List.setIfInBounds_toArray] at hs
  try simp only [Z.putL, Nat.zero_add] at hs
  refine Z.lb 2 rfl ?_
  refine Z.lnil ?_
  refine Z.only [0, 6, 11, 12, 13, 14, 15] rfl ?_
  refine Z.nthen ?_
  refine Z.seq ?_
  refine Z.drawL [SX.Ent.blk g13 51 ((sendV m x.t x.d).1).cells.toArray, SX.Ent.blk g T ((sendV m x.t x.d).1).cells.toArray] (fun _ => true) mixed hs ?_
  clear hs; intro wd9 hs
  refine Z.t 0 rfl rfl rfl (by rfl) (by kernel_rfl) ⟨_, hs, by first | (simp; done) | exact fun e he => List.mem_append_right _ he⟩ (Z.Yd.loadA _ rfl Try.isAgg51 (fun _ => Z.cellsB (cs := (sendV m x.t x.d).1.cells) (by first | ((repeat (first | exact List.mem_cons_self | refine List.mem_cons_of_mem _ ?_ | refine List.mem_append_right _ ?_)); done) | fail)) (by exact Try.sizeOf51)) ?_
  refine Z.tb [1, 2, 3, 4, 5, 6, 7, 8, 9, 10] (by kernel_rfl) rfl ⟨_, hs, by first | (simp; done) | exact fun e he => List.mem_append_right _ he⟩ rfl ?_
  refine Z.t 11 rfl rfl rfl (by rfl) (by kernel_rfl) ⟨_, hs, by first | (simp; done) | exact fun e he => List.mem_append_right _ he⟩ (Z.Yd.loadA _ rfl Try.isAgg51 (fun _ => Z.cellsB (cs := (sendV m x.t x.d).1.cells) (by first | ((repeat (first | exact List.mem_cons_self | refine List.mem_cons_of_mem _ ?_ | refine List.mem_append_right _ ?_)); done) | fail)) (by exact Try.sizeOf51)) ?_
  refine Z.yes (s := 84) (b := true) rfl (by simp) rfl ?_
  refine Z.tn 12 rfl rfl (by kernel_rfl) rfl (by exact ⟨rfl, trivial⟩) ?_
  refine Z.ZO.call rfl rfl (by rfl) rfl rfl Try.call21 rfl (ac_agrees g (sendV m x.t x.d).1 _ (hs.celOf (cs := (sendV m x.t x.d).1.cells) (by first | ((repeat (first | exact List.mem_cons_self | refine List.mem_cons_of_mem _ ?_ | refine List.mem_append_right _ ?_)); done) | fail)) (hm.send _ _).cfg) ?_
  rintro v9_12 w9_12 ⟨rfl, hy⟩
  replace hs := hs.call hy
  clear hy
  try simp only [List.cons_append, List.nil_append, List.append_nil] at hs
  refine Z.tk (Dn := fun _ => true) (i := 12) (fun _ => ⟨_, hs, by first | (simp; done) | exact fun e he => List.mem_append_right _ he⟩) ?_
  refine Z.tb [13] (by kernel_rfl) rfl ⟨_, hs, by first | (simp; done) | exact fun e he => List.mem_append_right _ he⟩ rfl ?_
  refine Z.tn 14 rfl rfl (by kernel_rfl) rfl trivial ?_
  first | refine Z.ZO.storeA rfl rfl hs rfl rfl (by kernel_rfl) (by first | (simp [Value.oneCell']; done) | (refine Z.all_one ?_; assumption)) (by first | exact SX.at0 | exact SX.at1 | exact SX.at2 | exact SX.at3 | exact SX.at4 | exact SX.at5 | exact Z.at6 | exact Z.at7 | exact Z.at8 | exact Z.at9 | exact Z.at10 | exact Z.at11 | exact Z.at12) (by rfl) ?_ | refine Z.ZO.storeP rfl rfl hs rfl rfl (by kernel_rfl) (by first | (simp [Value.oneCell']; done) | (refine Z.all_one ?_; assumption)) (by first | exact SX.at0 | exact SX.at1 | exact SX.at2 | exact SX.at3 | exact SX.at4 | exact SX.at5 | exact Z.at6 | exact Z.at7 | exact Z.at8 | exact Z.at9 | exact Z.at10 | exact Z.at11 | exact Z.at12) (by first | decide | (simp; done) | (simp; omega)) ?_ | refine Z.ZO.storePR rfl rfl hs rfl rfl (by kernel_rfl) (by first | (simp [Value.oneCell']; done) | (refine Z.all_one ?_; assumption)) (by first | exact SX.at0 | exact SX.at1 | exact SX.at2 | exact SX.at3 | exact SX.at4 | exact SX.at5 | exact Z.at6 | exact Z.at7 | exact Z.at8 | exact Z.at9 | exact Z.at10 | exact Z.at11 | exact Z.at12) (by first | decide | (simp; done) | (simp; omega)) ?_
  clear hs; intro ws hs
  simp only [Nat.zero_add, Nat.add_zero, Nat.reduceAdd, Int.reduceToNat, Nat.reduceMul, List.set_cons_zero, List.set_cons_succ, List.setIfInBounds_toArray] at hs
  try simp only [Z.putL, Nat.zero_add] at hs
  refine Z.tk (Dn := fun _ => true) (i := 14) (fun _ => ⟨_, hs, by first | (simp; done) | exact fun e he => List.mem_append_right _ he⟩) ?_
  refine Z.tb [15] (by kernel_rfl) rfl ⟨_, hs, by first | (simp; done) | exact fun e he => List.mem_append_right _ he⟩ rfl ?_
  refine Z.td (by rfl) (by kernel_rfl) ?_
  refine Z.only [6, 7] rfl ?_
  refine Z.nthen ?_
  refine Z.ret ?_
  repeat (first | refine Z.rthen ?_ | refine Z.rblock ?_ | refine Z.rscope ?_)
  -- ret#0
  refine Z.out2 (by exact ⟨⟨_, rfl, Z.rvcA hs Try.isAgg51 (by first | ((repeat (first | exact List.mem_cons_self | refine List.mem_cons_of_mem _ ?_ | refine List.mem_append_right _ ?_)); done) | fail) (by exact Try.sizeOf51)⟩, rfl, trivial⟩) ?_
  exact ⟨_, rfl, rfl, hs.sel [1] (by decide)⟩
set_option maxHeartbeats 1000000 in
set_option maxRecDepth 100000 in
theorem ac_do2 (g T : Nat) (m : AcV) (x : AxV) (w : World) (hs : SX.St w (SX.idsOf [SX.Ent.blk g T m.cells.toArray]) w [SX.Ent.blk g T m.cells.toArray]) (hm : m.ok) (hx : GoodX w (SX.idsOf [SX.Ent.blk g T m.cells.toArray]) x) (hk : x.k = 2) :
    Calls Try.prog 22 #[.pointer (some ⟨g, 0, none⟩), .agg m.cells.toArray, .agg x.cells.toArray] w (SX.Ret fun v w' => v = .tuple #[.agg ((answerV m x.t x.p x.r x.b).1).cells.toArray, .bool true] ∧ SX.St w (SX.idsOf [SX.Ent.blk g T m.cells.toArray]) w' [SX.Ent.blk g T ((answerV m x.t x.p x.r x.b).1).cells.toArray]) := by
  generalize hM : SX.idsOf [SX.Ent.blk g T m.cells.toArray] = M at *
  have hone0 := ac_one m
  have hone1 := ax_one x
  have hone := ac_one ((answerV m x.t x.p x.r x.b).1)
  refine Z.enter Try.func22 rfl Try.ntmps22 rfl rfl ?_
  refine Z.seq ?_
  refine Z.region ?_
  refine Z.le rfl trivial ?_
  refine Z.ZO.box rfl rfl (by rfl) rfl rfl hs ?_
  clear hs; intro g4 w4 hs
  refine Z.le rfl trivial ?_
  refine Z.ZO.box rfl rfl (by rfl) rfl rfl hs ?_
  clear hs; intro g5 w5 hs
  refine Z.le rfl trivial ?_
  refine Z.ZO.alloc rfl rfl (by rfl) Try.zeroValue51 rfl hs ?_
  clear hs; intro g6 w6 hs
  refine Z.lb 1 rfl ?_
  refine Z.lnil ?_
  refine Z.only [0, 4, 5, 6] rfl ?_
  refine Z.nthen ?_
  refine Z.seq ?_
  refine Z.seq ?_
  refine Z.region ?_
  refine Z.l rfl rfl (by rfl) (Z.keepS hs) (Z.Yd.fieldA (m := 0) rfl (by kernel_rfl)) ?_
  refine Z.l rfl rfl (by rfl) (Z.keepS hs) (Z.Yd.load rfl Try.isAgg3 (fun _ => Z.cellB (cs := x.cells.toArray) (by first | ((repeat (first | exact List.mem_cons_self | refine List.mem_cons_of_mem _ ?_ | refine List.mem_append_right _ ?_)); done) | fail) rfl)) ?_
  refine Z.lnil ?_
  refine Z.only [0, 4, 5, 6, 31] rfl ?_
  refine Z.nthen ?_
  refine Z.block ?_
  refine Z.seq ?_
  refine Z.region ?_
  refine Z.lb 2 rfl ?_
  refine Z.lnil ?_
  refine Z.only [0, 4, 5, 6, 31, 32] rfl ?_
  refine Z.nthen ?_
  refine Z.cond rfl (fun h => absurd h (by simp [hk])) (fun hc2 => ?_)
  refine Z.seq ?_
  refine Z.region ?_
  refine Z.lb 2 rfl ?_
  refine Z.lnil ?_
  refine Z.only [0, 4, 5, 6, 31, 54] rfl ?_
  refine Z.nthen ?_
  refine Z.cond rfl (fun h => absurd h (by simp [hk])) (fun hc6 => ?_)
  refine Z.seq ?_
  refine Z.region ?_
  refine Z.lb 2 rfl ?_
  refine Z.lnil ?_
  refine Z.only [0, 4, 5, 6, 31, 89] rfl ?_
  refine Z.nthen ?_
  refine Z.cond rfl (fun hc10 => ?_) (fun h => absurd h (by simp [hk]))
  refine Z.seq ?_
  refine Z.region ?_
  refine Z.lb 1 rfl ?_
  refine Z.l rfl rfl (by rfl) (Z.keepS hs) (Z.Yd.fieldA (m := 1) rfl (by kernel_rfl)) ?_
  refine Z.l rfl rfl (by rfl) (Z.keepS hs) (Z.Yd.load rfl Try.isAgg3 (fun _ => Z.cellB (cs := x.cells.toArray) (by first | ((repeat (first | exact List.mem_cons_self | refine List.mem_cons_of_mem _ ?_ | refine List.mem_append_right _ ?_)); done) | fail) rfl)) ?_
  refine Z.l rfl rfl (by rfl) (Z.keepS hs) (Z.Yd.fieldA (m := 3) rfl (by kernel_rfl)) ?_
  refine Z.l rfl rfl (by rfl) (Z.keepS hs) (Z.Yd.loadA _ rfl Try.isAgg36 (fun _ => Z.cellsBo (cs := x.cells) [.int .i64 x.p, .int .i64 x.r, .int .i64 x.b] (by first | ((repeat (first | exact List.mem_cons_self | refine List.mem_cons_of_mem _ ?_ | refine List.mem_append_right _ ?_)); done) | fail) ⟨[_, _], rfl⟩) (by exact Try.sizeOf36)) ?_
  replace hs : SX.St w M _ ([SX.Ent.blk g T m.cells.toArray] ++ [_, _, _]) := hs.sel [3, 0, 1, 2] (by decide)
  refine Z.le rfl trivial ?_
  refine Z.ZO.call rfl rfl (by rfl) rfl rfl Try.call13 rfl (ac_answer g T m x.t x.p x.r x.b _ hs.lend hm) ?_
  rintro v11_5 w11_5 ⟨rfl, hz⟩
  replace hs := hs.regain hz
  simp only [List.cons_append, List.nil_append] at hs
  refine Z.lb 5 rfl ?_
  refine Z.lnil ?_
  refine Z.only [0, 4, 5, 6, 16, 17] rfl ?_
  refine Z.nthen ?_
  refine Z.seq ?_
  refine Z.region ?_
  refine Z.l rfl rfl (by rfl) (Z.keepS hs) (Z.Yd.loadA _ rfl Try.isAgg51 (fun _ => Z.cellsB (cs := m.cells) (by first | ((repeat (first | exact List.mem_cons_self | refine List.mem_cons_of_mem _ ?_ | refine List.mem_append_right _ ?_)); done) | fail)) (by exact Try.sizeOf51)) ?_
  refine Z.l rfl rfl (by rfl) (Z.keepS hs) (Z.Yd.fieldA (m := 1) rfl (by kernel_rfl)) ?_
  refine Z.l rfl rfl (by rfl) (Z.keepS hs) (Z.Yd.load rfl Try.isAgg3 (fun _ => Z.cellB (cs := x.cells.toArray) (by first | ((repeat (first | exact List.mem_cons_self | refine List.mem_cons_of_mem _ ?_ | refine List.mem_append_right _ ?_)); done) | fail) rfl)) ?_
  refine Z.l rfl rfl (by rfl) (Z.keepS hs) (Z.Yd.fieldA (m := 3) rfl (by kernel_rfl)) ?_
  refine Z.l rfl rfl (by rfl) (Z.keepS hs) (Z.Yd.loadA _ rfl Try.isAgg36 (fun _ => Z.cellsBo (cs := x.cells) [.int .i64 x.p, .int .i64 x.r, .int .i64 x.b] (by first | ((repeat (first | exact List.mem_cons_self | refine List.mem_cons_of_mem _ ?_ | refine List.mem_append_right _ ?_)); done) | fail) ⟨[_, _], rfl⟩) (by exact Try.sizeOf36)) ?_
  refine Z.le rfl trivial ?_
  refine Z.ZO.call rfl rfl (by rfl) rfl rfl Try.call45 rfl (acr_answer m x.t x.p x.r x.b _ hm) ?_
  rintro v12_5 w12_5 ⟨rfl, hy⟩
  replace hs := hs.call hy
  clear hy
  try simp only [List.cons_append, List.nil_append, List.append_nil] at hs
  refine Z.lb 4 rfl ?_
  refine Z.le rfl trivial ?_
  refine Z.ZO.alloc rfl rfl (by rfl) Try.zeroValue51 rfl hs ?_
  clear hs; intro g18 w18 hs
  refine Z.le rfl trivial ?_
  first | refine Z.ZO.storeA rfl rfl hs rfl rfl (by kernel_rfl) (by first | (simp [Value.oneCell']; done) | (refine Z.all_one ?_; assumption)) (by first | exact SX.at0 | exact SX.at1 | exact SX.at2 | exact SX.at3 | exact SX.at4 | exact SX.at5 | exact Z.at6 | exact Z.at7 | exact Z.at8 | exact Z.at9 | exact Z.at10 | exact Z.at11 | exact Z.at12) (by rfl) ?_ | refine Z.ZO.storeP rfl rfl hs rfl rfl (by kernel_rfl) (by first | (simp [Value.oneCell']; done) | (refine Z.all_one ?_; assumption)) (by first | exact SX.at0 | exact SX.at1 | exact SX.at2 | exact SX.at3 | exact SX.at4 | exact SX.at5 | exact Z.at6 | exact Z.at7 | exact Z.at8 | exact Z.at9 | exact Z.at10 | exact Z.at11 | exact Z.at12) (by first | decide | (simp; done) | (simp; omega)) ?_ | refine Z.ZO.storePR rfl rfl hs rfl rfl (by kernel_rfl) (by first | (simp [Value.oneCell']; done) | (refine Z.all_one ?_; assumption)) (by first | exact SX.at0 | exact SX.at1 | exact SX.at2 | exact SX.at3 | exact SX.at4 | exact SX.at5 | exact Z.at6 | exact Z.at7 | exact Z.at8 | exact Z.at9 | exact Z.at10 | exact Z.at11 | exact Z.at12) (by first | decide | (simp; done) | (simp; omega)) ?_
  clear hs; intro ws hs
  simp only [Nat.zero_add, Nat.add_zero, Nat.reduceAdd, Int.reduceToNat, Nat.reduceMul, List.set_cons_zero, List.set_cons_succ, List.setIfInBounds_toArray] at hs
  try simp only [Z.putL, Nat.zero_add] at hs
  refine Z.lb 2 rfl ?_
  refine Z.lnil ?_
  refine Z.only [0, 6, 16, 17, 18, 19, 20] rfl ?_
  refine Z.nthen ?_
  refine Z.seq ?_
  refine Z.drawL [SX.Ent.blk g18 51 ((answerV m x.t x.p x.r x.b).1).cells.toArray, SX.Ent.blk g T ((answerV m x.t x.p x.r x.b).1).cells.toArray] (fun _ => true) mixed hs ?_
  clear hs; intro wd13 hs
  refine Z.t 0 rfl rfl rfl (by rfl) (by kernel_rfl) ⟨_, hs, by first | (simp; done) | exact fun e he => List.mem_append_right _ he⟩ (Z.Yd.loadA _ rfl Try.isAgg51 (fun _ => Z.cellsB (cs := (answerV m x.t x.p x.r x.b).1.cells) (by first | ((repeat (first | exact List.mem_cons_self | refine List.mem_cons_of_mem _ ?_ | refine List.mem_append_right _ ?_)); done) | fail)) (by exact Try.sizeOf51)) ?_
  refine Z.tb [1, 2] (by kernel_rfl) rfl ⟨_, hs, by first | (simp; done) | exact fun e he => List.mem_append_right _ he⟩ rfl ?_
  refine Z.t 3 rfl rfl rfl (by rfl) (by kernel_rfl) ⟨_, hs, by first | (simp; done) | exact fun e he => List.mem_append_right _ he⟩ (Z.Yd.bin rfl rfl (by intro _ w; go_simp; try rfl)) ?_
  refine Z.tb [4, 5, 6, 7, 8, 9, 10] (by kernel_rfl) rfl ⟨_, hs, by first | (simp; done) | exact fun e he => List.mem_append_right _ he⟩ rfl ?_
  refine Z.t 11 rfl rfl rfl (by rfl) (by kernel_rfl) ⟨_, hs, by first | (simp; done) | exact fun e he => List.mem_append_right _ he⟩ (Z.Yd.loadA _ rfl Try.isAgg51 (fun _ => Z.cellsB (cs := (answerV m x.t x.p x.r x.b).1.cells) (by first | ((repeat (first | exact List.mem_cons_self | refine List.mem_cons_of_mem _ ?_ | refine List.mem_append_right _ ?_)); done) | fail)) (by exact Try.sizeOf51)) ?_
  refine Z.yes (s := 119) (b := true) rfl (by simp) rfl ?_
  refine Z.tn 12 rfl rfl (by kernel_rfl) rfl (by exact ⟨rfl, trivial⟩) ?_
  refine Z.ZO.call rfl rfl (by rfl) rfl rfl Try.call21 rfl (ac_agrees g (answerV m x.t x.p x.r x.b).1 _ (hs.celOf (cs := (answerV m x.t x.p x.r x.b).1.cells) (by first | ((repeat (first | exact List.mem_cons_self | refine List.mem_cons_of_mem _ ?_ | refine List.mem_append_right _ ?_)); done) | fail)) (hm.answer _ _ _ _).cfg) ?_
  rintro v13_12 w13_12 ⟨rfl, hy⟩
  replace hs := hs.call hy
  clear hy
  try simp only [List.cons_append, List.nil_append, List.append_nil] at hs
  refine Z.tk (Dn := fun _ => true) (i := 12) (fun _ => ⟨_, hs, by first | (simp; done) | exact fun e he => List.mem_append_right _ he⟩) ?_
  refine Z.tb [13] (by kernel_rfl) rfl ⟨_, hs, by first | (simp; done) | exact fun e he => List.mem_append_right _ he⟩ rfl ?_
  refine Z.tn 14 rfl rfl (by kernel_rfl) rfl trivial ?_
  first | refine Z.ZO.storeA rfl rfl hs rfl rfl (by kernel_rfl) (by first | (simp [Value.oneCell']; done) | (refine Z.all_one ?_; assumption)) (by first | exact SX.at0 | exact SX.at1 | exact SX.at2 | exact SX.at3 | exact SX.at4 | exact SX.at5 | exact Z.at6 | exact Z.at7 | exact Z.at8 | exact Z.at9 | exact Z.at10 | exact Z.at11 | exact Z.at12) (by rfl) ?_ | refine Z.ZO.storeP rfl rfl hs rfl rfl (by kernel_rfl) (by first | (simp [Value.oneCell']; done) | (refine Z.all_one ?_; assumption)) (by first | exact SX.at0 | exact SX.at1 | exact SX.at2 | exact SX.at3 | exact SX.at4 | exact SX.at5 | exact Z.at6 | exact Z.at7 | exact Z.at8 | exact Z.at9 | exact Z.at10 | exact Z.at11 | exact Z.at12) (by first | decide | (simp; done) | (simp; omega)) ?_ | refine Z.ZO.storePR rfl rfl hs rfl rfl (by kernel_rfl) (by first | (simp [Value.oneCell']; done) | (refine Z.all_one ?_; assumption)) (by first | exact SX.at0 | exact SX.at1 | exact SX.at2 | exact SX.at3 | exact SX.at4 | exact SX.at5 | exact Z.at6 | exact Z.at7 | exact Z.at8 | exact Z.at9 | exact Z.at10 | exact Z.at11 | exact Z.at12) (by first | decide | (simp; done) | (simp; omega)) ?_
  clear hs; intro ws hs
  simp only [Nat.zero_add, Nat.add_zero, Nat.reduceAdd, Int.reduceToNat, Nat.reduceMul, List.set_cons_zero, List.set_cons_succ, List.setIfInBounds_toArray] at hs
  try simp only [Z.putL, Nat.zero_add] at hs
  refine Z.tk (Dn := fun _ => true) (i := 14) (fun _ => ⟨_, hs, by first | (simp; done) | exact fun e he => List.mem_append_right _ he⟩) ?_
  refine Z.tb [15] (by kernel_rfl) rfl ⟨_, hs, by first | (simp; done) | exact fun e he => List.mem_append_right _ he⟩ rfl ?_
  refine Z.td (by rfl) (by kernel_rfl) ?_
  refine Z.only [6, 7] rfl ?_
  refine Z.nthen ?_
  refine Z.ret ?_
  repeat (first | refine Z.rthen ?_ | refine Z.rblock ?_ | refine Z.rscope ?_)
  -- ret#0
  refine Z.out2 (by exact ⟨⟨_, rfl, Z.rvcA hs Try.isAgg51 (by first | ((repeat (first | exact List.mem_cons_self | refine List.mem_cons_of_mem _ ?_ | refine List.mem_append_right _ ?_)); done) | fail) (by exact Try.sizeOf51)⟩, rfl, trivial⟩) ?_
  exact ⟨_, rfl, rfl, hs.sel [1] (by decide)⟩
set_option maxHeartbeats 1000000 in
set_option maxRecDepth 100000 in
theorem ac_do4 (g T : Nat) (m : AcV) (x : AxV) (w : World) (hs : SX.St w (SX.idsOf [SX.Ent.blk g T m.cells.toArray]) w [SX.Ent.blk g T m.cells.toArray]) (hm : m.ok) (hx : GoodX w (SX.idsOf [SX.Ent.blk g T m.cells.toArray]) x) (hk : x.k = 4) :
    Calls Try.prog 22 #[.pointer (some ⟨g, 0, none⟩), .agg m.cells.toArray, .agg x.cells.toArray] w (SX.Ret fun v w' => v = .tuple #[.agg (tickR m x.t).cells.toArray, .bool true] ∧ SX.St w (SX.idsOf [SX.Ent.blk g T m.cells.toArray]) w' [SX.Ent.blk g T (tickR m x.t).cells.toArray]) := by
  generalize hM : SX.idsOf [SX.Ent.blk g T m.cells.toArray] = M at *
  have hone0 := ac_one m
  have hone1 := ax_one x
  have hone := ac_one (tickR m x.t)
  refine Z.enter Try.func22 rfl Try.ntmps22 rfl rfl ?_
  refine Z.seq ?_
  refine Z.region ?_
  refine Z.le rfl trivial ?_
  refine Z.ZO.box rfl rfl (by rfl) rfl rfl hs ?_
  clear hs; intro g4 w4 hs
  refine Z.le rfl trivial ?_
  refine Z.ZO.box rfl rfl (by rfl) rfl rfl hs ?_
  clear hs; intro g5 w5 hs
  refine Z.le rfl trivial ?_
  refine Z.ZO.alloc rfl rfl (by rfl) Try.zeroValue51 rfl hs ?_
  clear hs; intro g6 w6 hs
  refine Z.lb 1 rfl ?_
  refine Z.lnil ?_
  refine Z.only [0, 4, 5, 6] rfl ?_
  refine Z.nthen ?_
  refine Z.seq ?_
  refine Z.seq ?_
  refine Z.region ?_
  refine Z.l rfl rfl (by rfl) (Z.keepS hs) (Z.Yd.fieldA (m := 0) rfl (by kernel_rfl)) ?_
  refine Z.l rfl rfl (by rfl) (Z.keepS hs) (Z.Yd.load rfl Try.isAgg3 (fun _ => Z.cellB (cs := x.cells.toArray) (by first | ((repeat (first | exact List.mem_cons_self | refine List.mem_cons_of_mem _ ?_ | refine List.mem_append_right _ ?_)); done) | fail) rfl)) ?_
  refine Z.lnil ?_
  refine Z.only [0, 4, 5, 6, 31] rfl ?_
  refine Z.nthen ?_
  refine Z.block ?_
  refine Z.seq ?_
  refine Z.region ?_
  refine Z.lb 2 rfl ?_
  refine Z.lnil ?_
  refine Z.only [0, 4, 5, 6, 31, 32] rfl ?_
  refine Z.nthen ?_
  refine Z.cond rfl (fun h => absurd h (by simp [hk])) (fun hc2 => ?_)
  refine Z.seq ?_
  refine Z.region ?_
  refine Z.lb 2 rfl ?_
  refine Z.lnil ?_
  refine Z.only [0, 4, 5, 6, 31, 54] rfl ?_
  refine Z.nthen ?_
  refine Z.cond rfl (fun h => absurd h (by simp [hk])) (fun hc6 => ?_)
  refine Z.seq ?_
  refine Z.region ?_
  refine Z.lb 2 rfl ?_
  refine Z.lnil ?_
  refine Z.only [0, 4, 5, 6, 31, 89] rfl ?_
  refine Z.nthen ?_
  refine Z.cond rfl (fun h => absurd h (by simp [hk])) (fun hc10 => ?_)
  refine Z.seq ?_
  refine Z.seq ?_
  refine Z.region ?_
  refine Z.lb 2 rfl ?_
  refine Z.lnil ?_
  refine Z.only [0, 4, 5, 6, 31, 124] rfl ?_
  refine Z.nthen ?_
  refine Z.cond rfl (fun h => absurd h (by simp [hk])) (fun hc14 => ?_)
  refine Z.region ?_
  refine Z.lb 2 rfl ?_
  refine Z.lnil ?_
  refine Z.only [0, 4, 5, 6, 31, 124] rfl ?_
  refine Z.nthen ?_
  refine Z.cond rfl (fun h => absurd h (by simp [hk])) (fun hc15 => ?_)
  refine Z.seq ?_
  refine Z.region ?_
  refine Z.lb 2 rfl ?_
  refine Z.lnil ?_
  refine Z.only [0, 4, 5, 6, 170] rfl ?_
  refine Z.nthen ?_
  refine Z.cond rfl (fun hc22 => ?_) (fun h => absurd h (by simp [hk]))
  refine Z.seq ?_
  refine Z.region ?_
  refine Z.lb 1 rfl ?_
  refine Z.l rfl rfl (by rfl) (Z.keepS hs) (Z.Yd.fieldA (m := 1) rfl (by kernel_rfl)) ?_
  refine Z.l rfl rfl (by rfl) (Z.keepS hs) (Z.Yd.load rfl Try.isAgg3 (fun _ => Z.cellB (cs := x.cells.toArray) (by first | ((repeat (first | exact List.mem_cons_self | refine List.mem_cons_of_mem _ ?_ | refine List.mem_append_right _ ?_)); done) | fail) rfl)) ?_
  replace hs : SX.St w M _ ([SX.Ent.blk g T m.cells.toArray] ++ [_, _, _]) := hs.sel [3, 0, 1, 2] (by decide)
  refine Z.le rfl trivial ?_
  refine Z.ZO.call rfl rfl (by rfl) rfl rfl Try.call24 rfl (ac_tick g T m x.t _ hs.lend hm) ?_
  rintro v23_3 w23_3 ⟨rfl, hz⟩
  replace hs := hs.regain hz
  simp only [List.cons_append, List.nil_append] at hs
  replace hs : SX.St w M _ [SX.Ent.blk g T (tickR m x.t).cells.toArray, _, _, _] := hs
  refine Z.lb 1 rfl ?_
  refine Z.lnil ?_
  refine Z.only [0, 4, 5, 6, 27] rfl ?_
  refine Z.nthen ?_
  refine Z.seq ?_
  refine Z.region ?_
  refine Z.l rfl rfl (by rfl) (Z.keepS hs) (Z.Yd.loadA _ rfl Try.isAgg51 (fun _ => Z.cellsB (cs := m.cells) (by first | ((repeat (first | exact List.mem_cons_self | refine List.mem_cons_of_mem _ ?_ | refine List.mem_append_right _ ?_)); done) | fail)) (by exact Try.sizeOf51)) ?_
  refine Z.l rfl rfl (by rfl) (Z.keepS hs) (Z.Yd.fieldA (m := 1) rfl (by kernel_rfl)) ?_
  refine Z.l rfl rfl (by rfl) (Z.keepS hs) (Z.Yd.load rfl Try.isAgg3 (fun _ => Z.cellB (cs := x.cells.toArray) (by first | ((repeat (first | exact List.mem_cons_self | refine List.mem_cons_of_mem _ ?_ | refine List.mem_append_right _ ?_)); done) | fail) rfl)) ?_
  refine Z.le rfl trivial ?_
  refine Z.ZO.call rfl rfl (by rfl) rfl rfl Try.call47 rfl (acr_tick m x.t _ hm) ?_
  rintro v24_3 w24_3 ⟨rfl, hy⟩
  replace hs := hs.call hy
  clear hy
  try simp only [List.cons_append, List.nil_append, List.append_nil] at hs
  refine Z.lb 3 rfl ?_
  refine Z.le rfl trivial ?_
  refine Z.ZO.alloc rfl rfl (by rfl) Try.zeroValue51 rfl hs ?_
  clear hs; intro g28 w28 hs
  refine Z.le rfl trivial ?_
  first | refine Z.ZO.storeA rfl rfl hs rfl rfl (by kernel_rfl) (by first | (simp [Value.oneCell']; done) | (refine Z.all_one ?_; assumption)) (by first | exact SX.at0 | exact SX.at1 | exact SX.at2 | exact SX.at3 | exact SX.at4 | exact SX.at5 | exact Z.at6 | exact Z.at7 | exact Z.at8 | exact Z.at9 | exact Z.at10 | exact Z.at11 | exact Z.at12) (by rfl) ?_ | refine Z.ZO.storeP rfl rfl hs rfl rfl (by kernel_rfl) (by first | (simp [Value.oneCell']; done) | (refine Z.all_one ?_; assumption)) (by first | exact SX.at0 | exact SX.at1 | exact SX.at2 | exact SX.at3 | exact SX.at4 | exact SX.at5 | exact Z.at6 | exact Z.at7 | exact Z.at8 | exact Z.at9 | exact Z.at10 | exact Z.at11 | exact Z.at12) (by first | decide | (simp; done) | (simp; omega)) ?_ | refine Z.ZO.storePR rfl rfl hs rfl rfl (by kernel_rfl) (by first | (simp [Value.oneCell']; done) | (refine Z.all_one ?_; assumption)) (by first | exact SX.at0 | exact SX.at1 | exact SX.at2 | exact SX.at3 | exact SX.at4 | exact SX.at5 | exact Z.at6 | exact Z.at7 | exact Z.at8 | exact Z.at9 | exact Z.at10 | exact Z.at11 | exact Z.at12) (by first | decide | (simp; done) | (simp; omega)) ?_
  clear hs; intro ws hs
  simp only [Nat.zero_add, Nat.add_zero, Nat.reduceAdd, Int.reduceToNat, Nat.reduceMul, List.set_cons_zero, List.set_cons_succ, List.setIfInBounds_toArray] at hs
  try simp only [Z.putL, Nat.zero_add] at hs
  refine Z.lb 1 rfl ?_
  refine Z.lnil ?_
  refine Z.only [0, 6, 27, 28, 29] rfl ?_
  refine Z.nthen ?_
  refine Z.seq ?_
  refine Z.drawL [SX.Ent.blk g28 51 (tickR m x.t).cells.toArray, SX.Ent.blk g T (tickR m x.t).cells.toArray] (fun _ => true) mixed hs ?_
  clear hs; intro wd25 hs
  refine Z.t 0 rfl rfl rfl (by rfl) (by kernel_rfl) ⟨_, hs, by first | (simp; done) | exact fun e he => List.mem_append_right _ he⟩ (Z.Yd.loadA _ rfl Try.isAgg51 (fun _ => Z.cellsB (cs := (tickR m x.t).cells) (by first | ((repeat (first | exact List.mem_cons_self | refine List.mem_cons_of_mem _ ?_ | refine List.mem_append_right _ ?_)); done) | fail)) (by exact Try.sizeOf51)) ?_
  refine Z.tb [1, 2, 3, 4, 5] (by kernel_rfl) rfl ⟨_, hs, by first | (simp; done) | exact fun e he => List.mem_append_right _ he⟩ rfl ?_
  refine Z.t 6 rfl rfl rfl (by rfl) (by kernel_rfl) ⟨_, hs, by first | (simp; done) | exact fun e he => List.mem_append_right _ he⟩ (Z.Yd.loadA _ rfl Try.isAgg51 (fun _ => Z.cellsB (cs := (tickR m x.t).cells) (by first | ((repeat (first | exact List.mem_cons_self | refine List.mem_cons_of_mem _ ?_ | refine List.mem_append_right _ ?_)); done) | fail)) (by exact Try.sizeOf51)) ?_
  refine Z.yes (s := 187) (b := true) rfl (by simp [tickE]) rfl ?_
  refine Z.tn 7 rfl rfl (by kernel_rfl) rfl (by exact ⟨rfl, trivial⟩) ?_
  refine Z.ZO.call rfl rfl (by rfl) rfl rfl Try.call21 rfl (ac_agrees g (tickR m x.t) _ (hs.celOf (cs := (tickR m x.t).cells) (by first | ((repeat (first | exact List.mem_cons_self | refine List.mem_cons_of_mem _ ?_ | refine List.mem_append_right _ ?_)); done) | fail)) (hm.tickR _).cfg) ?_
  rintro v25_7 w25_7 ⟨rfl, hy⟩
  replace hs := hs.call hy
  clear hy
  try simp only [List.cons_append, List.nil_append, List.append_nil] at hs
  refine Z.tk (Dn := fun _ => true) (i := 7) (fun _ => ⟨_, hs, by first | (simp; done) | exact fun e he => List.mem_append_right _ he⟩) ?_
  refine Z.tb [8] (by kernel_rfl) rfl ⟨_, hs, by first | (simp; done) | exact fun e he => List.mem_append_right _ he⟩ rfl ?_
  refine Z.tn 9 rfl rfl (by kernel_rfl) rfl trivial ?_
  first | refine Z.ZO.storeA rfl rfl hs rfl rfl (by kernel_rfl) (by first | (simp [Value.oneCell']; done) | (refine Z.all_one ?_; assumption)) (by first | exact SX.at0 | exact SX.at1 | exact SX.at2 | exact SX.at3 | exact SX.at4 | exact SX.at5 | exact Z.at6 | exact Z.at7 | exact Z.at8 | exact Z.at9 | exact Z.at10 | exact Z.at11 | exact Z.at12) (by rfl) ?_ | refine Z.ZO.storeP rfl rfl hs rfl rfl (by kernel_rfl) (by first | (simp [Value.oneCell']; done) | (refine Z.all_one ?_; assumption)) (by first | exact SX.at0 | exact SX.at1 | exact SX.at2 | exact SX.at3 | exact SX.at4 | exact SX.at5 | exact Z.at6 | exact Z.at7 | exact Z.at8 | exact Z.at9 | exact Z.at10 | exact Z.at11 | exact Z.at12) (by first | decide | (simp; done) | (simp; omega)) ?_ | refine Z.ZO.storePR rfl rfl hs rfl rfl (by kernel_rfl) (by first | (simp [Value.oneCell']; done) | (refine Z.all_one ?_; assumption)) (by first | exact SX.at0 | exact SX.at1 | exact SX.at2 | exact SX.at3 | exact SX.at4 | exact SX.at5 | exact Z.at6 | exact Z.at7 | exact Z.at8 | exact Z.at9 | exact Z.at10 | exact Z.at11 | exact Z.at12) (by first | decide | (simp; done) | (simp; omega)) ?_
  clear hs; intro ws hs
  simp only [Nat.zero_add, Nat.add_zero, Nat.reduceAdd, Int.reduceToNat, Nat.reduceMul, List.set_cons_zero, List.set_cons_succ, List.setIfInBounds_toArray] at hs
  try simp only [Z.putL, Nat.zero_add] at hs
  refine Z.tk (Dn := fun _ => true) (i := 9) (fun _ => ⟨_, hs, by first | (simp; done) | exact fun e he => List.mem_append_right _ he⟩) ?_
  refine Z.tb [10] (by kernel_rfl) rfl ⟨_, hs, by first | (simp; done) | exact fun e he => List.mem_append_right _ he⟩ rfl ?_
  refine Z.td (by rfl) (by kernel_rfl) ?_
  refine Z.only [6, 7] rfl ?_
  refine Z.nthen ?_
  refine Z.ret ?_
  repeat (first | refine Z.rthen ?_ | refine Z.rblock ?_ | refine Z.rscope ?_)
  -- ret#0
  refine Z.out2 (by exact ⟨⟨_, rfl, Z.rvcA hs Try.isAgg51 (by first | ((repeat (first | exact List.mem_cons_self | refine List.mem_cons_of_mem _ ?_ | refine List.mem_append_right _ ?_)); done) | fail) (by exact Try.sizeOf51)⟩, rfl, trivial⟩) ?_
  exact ⟨_, rfl, rfl, hs.sel [1] (by decide)⟩
set_option maxHeartbeats 1000000 in
set_option maxRecDepth 100000 in
theorem ac_doN (g T : Nat) (m : AcV) (x : AxV) (w : World) (hs : SX.St w (SX.idsOf [SX.Ent.blk g T m.cells.toArray]) w [SX.Ent.blk g T m.cells.toArray]) (hm : m.ok) (hx : GoodX w (SX.idsOf [SX.Ent.blk g T m.cells.toArray]) x) (hk : x.k ≠ 0 ∧ x.k ≠ 1 ∧ x.k ≠ 2 ∧ x.k ≠ 3 ∧ x.k ≠ 4 ∧ x.k ≠ 5) :
    Calls Try.prog 22 #[.pointer (some ⟨g, 0, none⟩), .agg m.cells.toArray, .agg x.cells.toArray] w (SX.Ret fun v w' => v = .tuple #[.agg (m).cells.toArray, .bool true] ∧ SX.St w (SX.idsOf [SX.Ent.blk g T m.cells.toArray]) w' [SX.Ent.blk g T (m).cells.toArray]) := by
  generalize hM : SX.idsOf [SX.Ent.blk g T m.cells.toArray] = M at *
  have hone0 := ac_one m
  have hone1 := ax_one x
  have hone := ac_one (m)
  refine Z.enter Try.func22 rfl Try.ntmps22 rfl rfl ?_
  refine Z.seq ?_
  refine Z.region ?_
  refine Z.le rfl trivial ?_
  refine Z.ZO.box rfl rfl (by rfl) rfl rfl hs ?_
  clear hs; intro g4 w4 hs
  refine Z.le rfl trivial ?_
  refine Z.ZO.box rfl rfl (by rfl) rfl rfl hs ?_
  clear hs; intro g5 w5 hs
  refine Z.le rfl trivial ?_
  refine Z.ZO.alloc rfl rfl (by rfl) Try.zeroValue51 rfl hs ?_
  clear hs; intro g6 w6 hs
  refine Z.lb 1 rfl ?_
  refine Z.lnil ?_
  refine Z.only [0, 4, 5, 6] rfl ?_
  refine Z.nthen ?_
  refine Z.seq ?_
  refine Z.seq ?_
  refine Z.region ?_
  refine Z.l rfl rfl (by rfl) (Z.keepS hs) (Z.Yd.fieldA (m := 0) rfl (by kernel_rfl)) ?_
  refine Z.l rfl rfl (by rfl) (Z.keepS hs) (Z.Yd.load rfl Try.isAgg3 (fun _ => Z.cellB (cs := x.cells.toArray) (by first | ((repeat (first | exact List.mem_cons_self | refine List.mem_cons_of_mem _ ?_ | refine List.mem_append_right _ ?_)); done) | fail) rfl)) ?_
  refine Z.lnil ?_
  refine Z.only [0, 4, 5, 6, 31] rfl ?_
  refine Z.nthen ?_
  refine Z.block ?_
  refine Z.seq ?_
  refine Z.region ?_
  refine Z.lb 2 rfl ?_
  refine Z.lnil ?_
  refine Z.only [0, 4, 5, 6, 31, 32] rfl ?_
  refine Z.nthen ?_
  refine Z.cond rfl (fun h => absurd h (by simp [hk])) (fun hc2 => ?_)
  refine Z.seq ?_
  refine Z.region ?_
  refine Z.lb 2 rfl ?_
  refine Z.lnil ?_
  refine Z.only [0, 4, 5, 6, 31, 54] rfl ?_
  refine Z.nthen ?_
  refine Z.cond rfl (fun h => absurd h (by simp [hk])) (fun hc6 => ?_)
  refine Z.seq ?_
  refine Z.region ?_
  refine Z.lb 2 rfl ?_
  refine Z.lnil ?_
  refine Z.only [0, 4, 5, 6, 31, 89] rfl ?_
  refine Z.nthen ?_
  refine Z.cond rfl (fun h => absurd h (by simp [hk])) (fun hc10 => ?_)
  refine Z.seq ?_
  refine Z.seq ?_
  refine Z.region ?_
  refine Z.lb 2 rfl ?_
  refine Z.lnil ?_
  refine Z.only [0, 4, 5, 6, 31, 124] rfl ?_
  refine Z.nthen ?_
  refine Z.cond rfl (fun h => absurd h (by simp [hk])) (fun hc14 => ?_)
  refine Z.region ?_
  refine Z.lb 2 rfl ?_
  refine Z.lnil ?_
  refine Z.only [0, 4, 5, 6, 31, 124] rfl ?_
  refine Z.nthen ?_
  refine Z.cond rfl (fun h => absurd h (by simp [hk])) (fun hc15 => ?_)
  refine Z.seq ?_
  refine Z.region ?_
  refine Z.lb 2 rfl ?_
  refine Z.lnil ?_
  refine Z.only [0, 4, 5, 6, 170] rfl ?_
  refine Z.nthen ?_
  refine Z.cond rfl (fun h => absurd h (by simp [hk])) (fun hc22 => ?_)
  refine Z.skip ?_
  refine Z.nblock ?_
  refine Z.nthen ?_
  refine Z.seq ?_
  refine Z.region ?_
  refine Z.l rfl rfl (by rfl) (Z.keepS hs) (Z.Yd.loadA _ rfl Try.isAgg51 (fun _ => Z.cellsB (cs := m.cells) (by first | ((repeat (first | exact List.mem_cons_self | refine List.mem_cons_of_mem _ ?_ | refine List.mem_append_right _ ?_)); done) | fail)) (by exact Try.sizeOf51)) ?_
  refine Z.le rfl trivial ?_
  first | refine Z.ZO.storeA rfl rfl hs rfl rfl (by kernel_rfl) (by first | (simp [Value.oneCell']; done) | (refine Z.all_one ?_; assumption)) (by first | exact SX.at0 | exact SX.at1 | exact SX.at2 | exact SX.at3 | exact SX.at4 | exact SX.at5 | exact Z.at6 | exact Z.at7 | exact Z.at8 | exact Z.at9 | exact Z.at10 | exact Z.at11 | exact Z.at12) (by rfl) ?_ | refine Z.ZO.storeP rfl rfl hs rfl rfl (by kernel_rfl) (by first | (simp [Value.oneCell']; done) | (refine Z.all_one ?_; assumption)) (by first | exact SX.at0 | exact SX.at1 | exact SX.at2 | exact SX.at3 | exact SX.at4 | exact SX.at5 | exact Z.at6 | exact Z.at7 | exact Z.at8 | exact Z.at9 | exact Z.at10 | exact Z.at11 | exact Z.at12) (by first | decide | (simp; done) | (simp; omega)) ?_ | refine Z.ZO.storePR rfl rfl hs rfl rfl (by kernel_rfl) (by first | (simp [Value.oneCell']; done) | (refine Z.all_one ?_; assumption)) (by first | exact SX.at0 | exact SX.at1 | exact SX.at2 | exact SX.at3 | exact SX.at4 | exact SX.at5 | exact Z.at6 | exact Z.at7 | exact Z.at8 | exact Z.at9 | exact Z.at10 | exact Z.at11 | exact Z.at12) (by first | decide | (simp; done) | (simp; omega)) ?_
  clear hs; intro ws hs
  simp only [Nat.zero_add, Nat.add_zero, Nat.reduceAdd, Int.reduceToNat, Nat.reduceMul, List.set_cons_zero, List.set_cons_succ, List.setIfInBounds_toArray] at hs
  try simp only [Z.putL, Nat.zero_add] at hs
  refine Z.lb 1 rfl ?_
  refine Z.lnil ?_
  refine Z.only [6, 7] rfl ?_
  refine Z.nthen ?_
  refine Z.ret ?_
  -- ret#0
  refine Z.out2 (by exact ⟨⟨_, rfl, Z.rvcA hs Try.isAgg51 (by first | ((repeat (first | exact List.mem_cons_self | refine List.mem_cons_of_mem _ ?_ | refine List.mem_append_right _ ?_)); done) | fail) (by exact Try.sizeOf51)⟩, rfl, trivial⟩) ?_
  exact ⟨_, rfl, rfl, hs.sel [3] (by decide)⟩
set_option maxHeartbeats 1000000 in
set_option maxRecDepth 100000 in
theorem ac_do3 (g T : Nat) (m : AcV) (x : AxV) (w : World) (hs : SX.St w (SX.idsOf [SX.Ent.blk g T m.cells.toArray]) w [SX.Ent.blk g T m.cells.toArray]) (hm : m.ok) (hx : GoodX w (SX.idsOf [SX.Ent.blk g T m.cells.toArray]) x) (hk : x.k = 3) :
    Calls Try.prog 22 #[.pointer (some ⟨g, 0, none⟩), .agg m.cells.toArray, .agg x.cells.toArray] w (SX.Ret fun v w' => v = .tuple #[.agg ((resolveV m x.t x.lc x.l).1).cells.toArray, .bool true] ∧ SX.St w (SX.idsOf [SX.Ent.blk g T m.cells.toArray]) w' [SX.Ent.blk g T ((resolveV m x.t x.lc x.l).1).cells.toArray]) := by
  generalize hM : SX.idsOf [SX.Ent.blk g T m.cells.toArray] = M at *
  have hone0 := ac_one m
  have hone1 := ax_one x
  have hone := ac_one ((resolveV m x.t x.lc x.l).1)
  have hml := msgL_len m
  have hmb := msgL_by m
  have hlen := hx.len
  refine Z.enter Try.func22 rfl Try.ntmps22 rfl rfl ?_
  refine Z.seq ?_
  refine Z.region ?_
  refine Z.le rfl trivial ?_
  refine Z.ZO.box rfl rfl (by rfl) rfl rfl hs ?_
  clear hs; intro g4 w4 hs
  refine Z.le rfl trivial ?_
  refine Z.ZO.box rfl rfl (by rfl) rfl rfl hs ?_
  clear hs; intro g5 w5 hs
  refine Z.le rfl trivial ?_
  refine Z.ZO.alloc rfl rfl (by rfl) Try.zeroValue51 rfl hs ?_
  clear hs; intro g6 w6 hs
  refine Z.lb 1 rfl ?_
  refine Z.lnil ?_
  refine Z.only [0, 4, 5, 6] rfl ?_
  refine Z.nthen ?_
  refine Z.seq ?_
  refine Z.seq ?_
  refine Z.region ?_
  refine Z.l rfl rfl (by rfl) (Z.keepS hs) (Z.Yd.fieldA (m := 0) rfl (by kernel_rfl)) ?_
  refine Z.l rfl rfl (by rfl) (Z.keepS hs) (Z.Yd.load rfl Try.isAgg3 (fun _ => Z.cellB (cs := x.cells.toArray) (by first | ((repeat (first | exact List.mem_cons_self | refine List.mem_cons_of_mem _ ?_ | refine List.mem_append_right _ ?_)); done) | fail) rfl)) ?_
  refine Z.lnil ?_
  refine Z.only [0, 4, 5, 6, 31] rfl ?_
  refine Z.nthen ?_
  refine Z.block ?_
  refine Z.seq ?_
  refine Z.region ?_
  refine Z.lb 2 rfl ?_
  refine Z.lnil ?_
  refine Z.only [0, 4, 5, 6, 31, 32] rfl ?_
  refine Z.nthen ?_
  refine Z.cond rfl (fun h => absurd h (by simp [hk])) (fun hc2 => ?_)
  refine Z.seq ?_
  refine Z.region ?_
  refine Z.lb 2 rfl ?_
  refine Z.lnil ?_
  refine Z.only [0, 4, 5, 6, 31, 54] rfl ?_
  refine Z.nthen ?_
  refine Z.cond rfl (fun h => absurd h (by simp [hk])) (fun hc6 => ?_)
  refine Z.seq ?_
  refine Z.region ?_
  refine Z.lb 2 rfl ?_
  refine Z.lnil ?_
  refine Z.only [0, 4, 5, 6, 31, 89] rfl ?_
  refine Z.nthen ?_
  refine Z.cond rfl (fun h => absurd h (by simp [hk])) (fun hc10 => ?_)
  refine Z.seq ?_
  refine Z.seq ?_
  refine Z.region ?_
  refine Z.lb 2 rfl ?_
  refine Z.lnil ?_
  refine Z.only [0, 4, 5, 6, 31, 124] rfl ?_
  refine Z.nthen ?_
  refine Z.cond rfl (fun hc14 => ?_) (fun h => absurd h (by simp [hk]))
  refine Z.skip ?_
  refine Z.nthen ?_
  refine Z.cond rfl (fun hc14 => ?_) (fun h => absurd h (by simp [hk]))
  refine Z.seq ?_
  refine Z.region ?_
  refine Z.l rfl rfl (by rfl) (Z.keepS hs) (Z.Yd.fieldA (m := 6) rfl (by kernel_rfl)) ?_
  refine Z.l rfl rfl (by rfl) (Z.keepS hs) (Z.Yd.loadA _ rfl Try.isAgg40 (fun _ => Z.cellsBo (cs := x.cells) [.int .i64 x.lc, .slice x.A x.l.length x.c] (by first | ((repeat (first | exact List.mem_cons_self | refine List.mem_cons_of_mem _ ?_ | refine List.mem_append_right _ ?_)); done) | fail) ⟨[], rfl⟩) (by exact Try.sizeOf40)) ?_
  refine Z.le rfl trivial ?_
  refine Z.ZO.alloc rfl rfl (by rfl) Try.zeroValue40 rfl hs ?_
  clear hs; intro g21 w21 hs
  refine Z.le rfl trivial ?_
  first | refine Z.ZO.storeA rfl rfl hs rfl rfl (by kernel_rfl) (by first | (simp [Value.oneCell']; done) | (refine Z.all_one ?_; assumption)) (by first | exact SX.at0 | exact SX.at1 | exact SX.at2 | exact SX.at3 | exact SX.at4 | exact SX.at5 | exact Z.at6 | exact Z.at7 | exact Z.at8 | exact Z.at9 | exact Z.at10 | exact Z.at11 | exact Z.at12) (by rfl) ?_ | refine Z.ZO.storeP rfl rfl hs rfl rfl (by kernel_rfl) (by first | (simp [Value.oneCell']; done) | (refine Z.all_one ?_; assumption)) (by first | exact SX.at0 | exact SX.at1 | exact SX.at2 | exact SX.at3 | exact SX.at4 | exact SX.at5 | exact Z.at6 | exact Z.at7 | exact Z.at8 | exact Z.at9 | exact Z.at10 | exact Z.at11 | exact Z.at12) (by first | decide | (simp; done) | (simp; omega)) ?_ | refine Z.ZO.storePR rfl rfl hs rfl rfl (by kernel_rfl) (by first | (simp [Value.oneCell']; done) | (refine Z.all_one ?_; assumption)) (by first | exact SX.at0 | exact SX.at1 | exact SX.at2 | exact SX.at3 | exact SX.at4 | exact SX.at5 | exact Z.at6 | exact Z.at7 | exact Z.at8 | exact Z.at9 | exact Z.at10 | exact Z.at11 | exact Z.at12) (by first | decide | (simp; done) | (simp; omega)) ?_
  clear hs; intro ws hs
  simp only [Nat.zero_add, Nat.add_zero, Nat.reduceAdd, Int.reduceToNat, Nat.reduceMul, List.set_cons_zero, List.set_cons_succ, List.setIfInBounds_toArray] at hs
  try simp only [Z.putL, Nat.zero_add] at hs
  refine Z.lnil ?_
  refine Z.only [0, 4, 5, 6, 21] rfl ?_
  replace hs := hs.nil 5 1
  replace hs : SX.St w M _ [_, _, _, _, _, _] := hs.sel [0, 1, 3, 5, 2, 4] (by decide)
  refine Z.nthen ?_
  refine Z.seq ?_
  refine Z.seq ?_
  refine Z.region ?_
  refine Z.l rfl rfl (by rfl) (Z.keepS hs) (Z.Yd.fieldA (m := 0) rfl (by kernel_rfl)) ?_
  refine Z.l rfl rfl (by rfl) (Z.keepS hs) (Z.Yd.load rfl Try.isAgg3 (fun _ => Z.cellB (cs := x.cells.toArray) (by first | ((repeat (first | exact List.mem_cons_self | refine List.mem_cons_of_mem _ ?_ | refine List.mem_append_right _ ?_)); done) | fail) rfl)) ?_
  refine Z.lb 1 rfl ?_
  refine Z.lnil ?_
  refine Z.only [0, 4, 5, 6, 21, 131] rfl ?_
  refine Z.nthen ?_
  refine Z.cond rfl (fun h => absurd h (by simp [hk])) (fun hc17 => ?_)
  refine Z.skip ?_
  refine Z.nthen ?_
  refine Z.seq ?_
  refine Z.drawL [SX.Ent.blk g21 40 #[.int .i64 x.lc, .slice x.A x.l.length x.c], SX.Ent.blk g5 57 x.cells.toArray] (fun _ => true) mixed hs ?_
  clear hs; intro wd19 hs
  refine Z.tb [0] (by kernel_rfl) rfl ⟨_, hs, by first | (simp; done) | exact fun e he => List.mem_append_right _ he⟩ rfl ?_
  refine Z.t 1 rfl rfl rfl (by rfl) (by kernel_rfl) ⟨_, hs, by first | (simp; done) | exact fun e he => List.mem_append_right _ he⟩ (Z.Yd.fieldA (m := 1) rfl (by kernel_rfl)) ?_
  refine Z.t 2 rfl rfl rfl (by rfl) (by kernel_rfl) ⟨_, hs, by first | (simp; done) | exact fun e he => List.mem_append_right _ he⟩ (Z.Yd.load rfl Try.isAgg3 (fun _ => Z.cellB (cs := x.cells.toArray) (by first | ((repeat (first | exact List.mem_cons_self | refine List.mem_cons_of_mem _ ?_ | refine List.mem_append_right _ ?_)); done) | fail) rfl)) ?_
  refine Z.t 3 rfl rfl rfl (by rfl) (by kernel_rfl) ⟨_, hs, by first | (simp; done) | exact fun e he => List.mem_append_right _ he⟩ (Z.Yd.fieldA (m := 0) rfl (by kernel_rfl)) ?_
  refine Z.t 4 rfl rfl rfl (by rfl) (by kernel_rfl) ⟨_, hs, by first | (simp; done) | exact fun e he => List.mem_append_right _ he⟩ (by first | exact Z.Yd.load rfl Try.isAgg3 (fun _ => Z.cellB (by first | ((repeat (first | exact List.mem_cons_self | refine List.mem_cons_of_mem _ ?_ | refine List.mem_append_right _ ?_)); done) | fail) rfl) | exact Z.Yd.load rfl Try.isAgg3 (fun _ => Z.cellO (by assumption) (by simp) (by assumption)) | fail "load 19.4") ?_
  refine Z.t 5 rfl rfl rfl (by rfl) (by kernel_rfl) ⟨_, hs, by first | (simp; done) | exact fun e he => List.mem_append_right _ he⟩ (Z.Yd.fieldA (m := 1) rfl (by kernel_rfl)) ?_
  refine Z.t 6 rfl rfl rfl (by rfl) (by kernel_rfl) ⟨_, hs, by first | (simp; done) | exact fun e he => List.mem_append_right _ he⟩ (by first | exact Z.Yd.load rfl Try.isAgg38 (fun _ => Z.cellB (by first | ((repeat (first | exact List.mem_cons_self | refine List.mem_cons_of_mem _ ?_ | refine List.mem_append_right _ ?_)); done) | fail) rfl) | exact Z.Yd.load rfl Try.isAgg38 (fun _ => Z.cellO (by assumption) (by simp) (by assumption)) | fail "load 19.6") ?_
  refine Z.tn 7 rfl rfl (by kernel_rfl) rfl trivial ?_
  refine Z.ZO.appendG (i0 := Try.t5) (size := 1) (bytes := 1) rfl rfl (by rfl) hs Try.underlying38 (by kernel_rfl) rfl rfl rfl rfl (by decide) rfl rfl (by first | exact SX.at0 | exact SX.at1 | exact SX.at2 | exact SX.at3 | exact SX.at4 | exact SX.at5 | exact Z.at6 | exact Z.at7 | exact Z.at8 | exact Z.at9 | exact Z.at10 | exact Z.at11 | exact Z.at12) ((hx.sx.st hs)) (by first | rfl | assumption | (simp [ints_length]; done) | (simp [ints_length]; omega)) (by first | exact Z.ints_one | assumption | simp [Value.oneCell']) (by unfold maxLen; omega) (by omega) ?_
  clear hs; intro v142 w142 hs
  simp only [List.set_cons_zero, List.set_cons_succ] at hs
  obtain ⟨Br, cr, rfl⟩ : ∃ Br cr, v142 = .slice Br (0 + x.l.length) cr := by
    obtain ⟨B, c, h, -, -, -⟩ := SX.row_slv hs (j := 0) rfl
    exact ⟨B, c, h⟩
  rw [show 0 + x.l.length = x.l.length from Nat.zero_add _] at hs ⊢
  rw [List.nil_append] at hs
  refine Z.tk (Dn := fun _ => true) (i := 7) (fun _ => ⟨_, hs, by first | (simp; done) | exact fun e he => List.mem_append_right _ he⟩) ?_
  refine Z.t 8 rfl rfl rfl (by rfl) (by kernel_rfl) ⟨_, hs, by first | (simp; done) | exact fun e he => List.mem_append_right _ he⟩ (Z.Yd.buildL [(0, 1), (1, 1)] [.int .i64 0, .slice none 0 0] rfl rfl (by intro w; kernel_rfl)) ?_
  replace hs : SX.St w M _ ([SX.Ent.blk g T m.cells.toArray] ++ [_, _, _, _, _]) := hs.sel [3, 0, 1, 2, 4, 5] (by decide)
  refine Z.tn 9 rfl rfl (by kernel_rfl) rfl trivial ?_
  refine Z.ZO.call rfl rfl (by rfl) rfl rfl Try.call16 rfl (ac_resolve g T m x.t x.lc Br x.l.length cr x.l _ hs.lend hm (Z.row_lentv hs (j := 0) rfl) rfl (by omega) hx.by8) ?_
  rintro v19_9 w19_9 ⟨rfl, hz⟩
  replace hs := hs.regain hz
  simp only [List.cons_append, List.nil_append] at hs
  refine Z.tk (Dn := fun _ => true) (i := 9) (fun _ => ⟨_, hs, by first | (simp; done) | exact fun e he => List.mem_append_right _ he⟩) ?_
  refine Z.tb [10, 11, 12, 13, 14] (by kernel_rfl) rfl ⟨_, hs, by first | (simp; done) | exact fun e he => List.mem_append_right _ he⟩ rfl ?_
  refine Z.td (by rfl) (by kernel_rfl) ?_
  refine Z.only [0, 4, 5, 6, 21, 22, 23] rfl ?_
  refine Z.nthen ?_
  refine Z.seq ?_
  refine Z.region ?_
  refine Z.l rfl rfl (by rfl) (Z.keepS hs) (Z.Yd.loadA _ rfl Try.isAgg51 (fun _ => Z.cellsB (cs := m.cells) (by first | ((repeat (first | exact List.mem_cons_self | refine List.mem_cons_of_mem _ ?_ | refine List.mem_append_right _ ?_)); done) | fail)) (by exact Try.sizeOf51)) ?_
  refine Z.l rfl rfl (by rfl) (Z.keepS hs) (Z.Yd.fieldA (m := 1) rfl (by kernel_rfl)) ?_
  refine Z.l rfl rfl (by rfl) (Z.keepS hs) (Z.Yd.load rfl Try.isAgg3 (fun _ => Z.cellB (cs := x.cells.toArray) (by first | ((repeat (first | exact List.mem_cons_self | refine List.mem_cons_of_mem _ ?_ | refine List.mem_append_right _ ?_)); done) | fail) rfl)) ?_
  refine Z.l rfl rfl (by rfl) (Z.keepS hs) (by first | exact Z.Yd.loadA _ rfl Try.isAgg40 (fun _ => Z.cellsB (by first | ((repeat (first | exact List.mem_cons_self | refine List.mem_cons_of_mem _ ?_ | refine List.mem_append_right _ ?_)); done) | fail)) (by exact Try.sizeOf40) | fail "load 20.3") ?_
  refine Z.le rfl trivial ?_
  refine Z.ZO.call rfl rfl (by rfl) rfl rfl Try.call46 rfl (acr_resolve m x.t x.lc x.A x.l.length x.c x.l _ hm (hx.sx.st hs) rfl (by omega) hx.by8) ?_
  rintro v20_4 w20_4 ⟨rfl, hy⟩
  replace hs := hs.call hy
  clear hy
  try simp only [List.cons_append, List.nil_append, List.append_nil] at hs
  refine Z.lb 4 rfl ?_
  refine Z.le rfl trivial ?_
  refine Z.ZO.alloc rfl rfl (by rfl) Try.zeroValue51 rfl hs ?_
  clear hs; intro g24 w24 hs
  refine Z.le rfl trivial ?_
  first | refine Z.ZO.storeA rfl rfl hs rfl rfl (by kernel_rfl) (by first | (simp [Value.oneCell']; done) | (refine Z.all_one ?_; assumption)) (by first | exact SX.at0 | exact SX.at1 | exact SX.at2 | exact SX.at3 | exact SX.at4 | exact SX.at5 | exact Z.at6 | exact Z.at7 | exact Z.at8 | exact Z.at9 | exact Z.at10 | exact Z.at11 | exact Z.at12) (by rfl) ?_ | refine Z.ZO.storeP rfl rfl hs rfl rfl (by kernel_rfl) (by first | (simp [Value.oneCell']; done) | (refine Z.all_one ?_; assumption)) (by first | exact SX.at0 | exact SX.at1 | exact SX.at2 | exact SX.at3 | exact SX.at4 | exact SX.at5 | exact Z.at6 | exact Z.at7 | exact Z.at8 | exact Z.at9 | exact Z.at10 | exact Z.at11 | exact Z.at12) (by first | decide | (simp; done) | (simp; omega)) ?_ | refine Z.ZO.storePR rfl rfl hs rfl rfl (by kernel_rfl) (by first | (simp [Value.oneCell']; done) | (refine Z.all_one ?_; assumption)) (by first | exact SX.at0 | exact SX.at1 | exact SX.at2 | exact SX.at3 | exact SX.at4 | exact SX.at5 | exact Z.at6 | exact Z.at7 | exact Z.at8 | exact Z.at9 | exact Z.at10 | exact Z.at11 | exact Z.at12) (by first | decide | (simp; done) | (simp; omega)) ?_
  clear hs; intro ws hs
  simp only [Nat.zero_add, Nat.add_zero, Nat.reduceAdd, Int.reduceToNat, Nat.reduceMul, List.set_cons_zero, List.set_cons_succ, List.setIfInBounds_toArray] at hs
  try simp only [Z.putL, Nat.zero_add] at hs
  refine Z.lb 2 rfl ?_
  refine Z.lnil ?_
  refine Z.only [0, 6, 22, 23, 24, 25, 26] rfl ?_
  refine Z.nthen ?_
  refine Z.seq ?_
  refine Z.drawL [SX.Ent.blk g24 51 ((resolveV m x.t x.lc x.l).1).cells.toArray, SX.Ent.blk g T ((resolveV m x.t x.lc x.l).1).cells.toArray] (fun _ => true) mixed hs ?_
  clear hs; intro wd21 hs
  refine Z.t 0 rfl rfl rfl (by rfl) (by kernel_rfl) ⟨_, hs, by first | (simp; done) | exact fun e he => List.mem_append_right _ he⟩ (Z.Yd.loadA _ rfl Try.isAgg51 (fun _ => Z.cellsB (cs := (resolveV m x.t x.lc x.l).1.cells) (by first | ((repeat (first | exact List.mem_cons_self | refine List.mem_cons_of_mem _ ?_ | refine List.mem_append_right _ ?_)); done) | fail)) (by exact Try.sizeOf51)) ?_
  refine Z.tb [1, 2] (by kernel_rfl) rfl ⟨_, hs, by first | (simp; done) | exact fun e he => List.mem_append_right _ he⟩ rfl ?_
  refine Z.t 3 rfl rfl rfl (by rfl) (by kernel_rfl) ⟨_, hs, by first | (simp; done) | exact fun e he => List.mem_append_right _ he⟩ (Z.Yd.bin rfl rfl (by intro _ w; go_simp; try rfl)) ?_
  refine Z.tb [4, 5, 6, 7, 8, 9, 10] (by kernel_rfl) rfl ⟨_, hs, by first | (simp; done) | exact fun e he => List.mem_append_right _ he⟩ rfl ?_
  refine Z.t 11 rfl rfl rfl (by rfl) (by kernel_rfl) ⟨_, hs, by first | (simp; done) | exact fun e he => List.mem_append_right _ he⟩ (Z.Yd.loadA _ rfl Try.isAgg51 (fun _ => Z.cellsB (cs := (resolveV m x.t x.lc x.l).1.cells) (by first | ((repeat (first | exact List.mem_cons_self | refine List.mem_cons_of_mem _ ?_ | refine List.mem_append_right _ ?_)); done) | fail)) (by exact Try.sizeOf51)) ?_
  refine Z.yes (s := 165) (b := true) rfl (by simp) rfl ?_
  refine Z.tn 12 rfl rfl (by kernel_rfl) rfl (by exact ⟨rfl, trivial⟩) ?_
  refine Z.ZO.call rfl rfl (by rfl) rfl rfl Try.call21 rfl (ac_agrees g (resolveV m x.t x.lc x.l).1 _ (hs.celOf (cs := (resolveV m x.t x.lc x.l).1.cells) (by first | ((repeat (first | exact List.mem_cons_self | refine List.mem_cons_of_mem _ ?_ | refine List.mem_append_right _ ?_)); done) | fail)) (hm.resolve _ _ _).cfg) ?_
  rintro v21_12 w21_12 ⟨rfl, hy⟩
  replace hs := hs.call hy
  clear hy
  try simp only [List.cons_append, List.nil_append, List.append_nil] at hs
  refine Z.tk (Dn := fun _ => true) (i := 12) (fun _ => ⟨_, hs, by first | (simp; done) | exact fun e he => List.mem_append_right _ he⟩) ?_
  refine Z.tb [13] (by kernel_rfl) rfl ⟨_, hs, by first | (simp; done) | exact fun e he => List.mem_append_right _ he⟩ rfl ?_
  refine Z.tn 14 rfl rfl (by kernel_rfl) rfl trivial ?_
  first | refine Z.ZO.storeA rfl rfl hs rfl rfl (by kernel_rfl) (by first | (simp [Value.oneCell']; done) | (refine Z.all_one ?_; assumption)) (by first | exact SX.at0 | exact SX.at1 | exact SX.at2 | exact SX.at3 | exact SX.at4 | exact SX.at5 | exact Z.at6 | exact Z.at7 | exact Z.at8 | exact Z.at9 | exact Z.at10 | exact Z.at11 | exact Z.at12) (by rfl) ?_ | refine Z.ZO.storeP rfl rfl hs rfl rfl (by kernel_rfl) (by first | (simp [Value.oneCell']; done) | (refine Z.all_one ?_; assumption)) (by first | exact SX.at0 | exact SX.at1 | exact SX.at2 | exact SX.at3 | exact SX.at4 | exact SX.at5 | exact Z.at6 | exact Z.at7 | exact Z.at8 | exact Z.at9 | exact Z.at10 | exact Z.at11 | exact Z.at12) (by first | decide | (simp; done) | (simp; omega)) ?_ | refine Z.ZO.storePR rfl rfl hs rfl rfl (by kernel_rfl) (by first | (simp [Value.oneCell']; done) | (refine Z.all_one ?_; assumption)) (by first | exact SX.at0 | exact SX.at1 | exact SX.at2 | exact SX.at3 | exact SX.at4 | exact SX.at5 | exact Z.at6 | exact Z.at7 | exact Z.at8 | exact Z.at9 | exact Z.at10 | exact Z.at11 | exact Z.at12) (by first | decide | (simp; done) | (simp; omega)) ?_
  clear hs; intro ws hs
  simp only [Nat.zero_add, Nat.add_zero, Nat.reduceAdd, Int.reduceToNat, Nat.reduceMul, List.set_cons_zero, List.set_cons_succ, List.setIfInBounds_toArray] at hs
  try simp only [Z.putL, Nat.zero_add] at hs
  refine Z.tk (Dn := fun _ => true) (i := 14) (fun _ => ⟨_, hs, by first | (simp; done) | exact fun e he => List.mem_append_right _ he⟩) ?_
  refine Z.tb [15] (by kernel_rfl) rfl ⟨_, hs, by first | (simp; done) | exact fun e he => List.mem_append_right _ he⟩ rfl ?_
  refine Z.td (by rfl) (by kernel_rfl) ?_
  refine Z.only [6, 7] rfl ?_
  refine Z.nthen ?_
  refine Z.ret ?_
  repeat (first | refine Z.rthen ?_ | refine Z.rblock ?_ | refine Z.rscope ?_)
  -- ret#0
  refine Z.out2 (by exact ⟨⟨_, rfl, Z.rvcA hs Try.isAgg51 (by first | ((repeat (first | exact List.mem_cons_self | refine List.mem_cons_of_mem _ ?_ | refine List.mem_append_right _ ?_)); done) | fail) (by exact Try.sizeOf51)⟩, rfl, trivial⟩) ?_
  exact ⟨_, rfl, rfl, hs.sel [1] (by decide)⟩
set_option maxHeartbeats 1000000 in
set_option maxRecDepth 100000 in
theorem ac_do5 (g T : Nat) (m : AcV) (x : AxV) (w : World) (hs : SX.St w (SX.idsOf [SX.Ent.blk g T m.cells.toArray]) w [SX.Ent.blk g T m.cells.toArray]) (hm : m.ok) (hx : GoodX w (SX.idsOf [SX.Ent.blk g T m.cells.toArray]) x) (hk : x.k = 5) :
    Calls Try.prog 22 #[.pointer (some ⟨g, 0, none⟩), .agg m.cells.toArray, .agg x.cells.toArray] w (SX.Ret fun v w' => v = .tuple #[.agg ((resolveV m x.t (msgC m) (msgL m)).1).cells.toArray, .bool true] ∧ SX.St w (SX.idsOf [SX.Ent.blk g T m.cells.toArray]) w' [SX.Ent.blk g T ((resolveV m x.t (msgC m) (msgL m)).1).cells.toArray]) := by
  generalize hM : SX.idsOf [SX.Ent.blk g T m.cells.toArray] = M at *
  have hone0 := ac_one m
  have hone1 := ax_one x
  have hone := ac_one ((resolveV m x.t (msgC m) (msgL m)).1)
  have hml := msgL_len m
  have hmb := msgL_by m
  have hlen := hx.len
  refine Z.enter Try.func22 rfl Try.ntmps22 rfl rfl ?_
  refine Z.seq ?_
  refine Z.region ?_
  refine Z.le rfl trivial ?_
  refine Z.ZO.box rfl rfl (by rfl) rfl rfl hs ?_
  clear hs; intro g4 w4 hs
  refine Z.le rfl trivial ?_
  refine Z.ZO.box rfl rfl (by rfl) rfl rfl hs ?_
  clear hs; intro g5 w5 hs
  refine Z.le rfl trivial ?_
  refine Z.ZO.alloc rfl rfl (by rfl) Try.zeroValue51 rfl hs ?_
  clear hs; intro g6 w6 hs
  refine Z.lb 1 rfl ?_
  refine Z.lnil ?_
  refine Z.only [0, 4, 5, 6] rfl ?_
  refine Z.nthen ?_
  refine Z.seq ?_
  refine Z.seq ?_
  refine Z.region ?_
  refine Z.l rfl rfl (by rfl) (Z.keepS hs) (Z.Yd.fieldA (m := 0) rfl (by kernel_rfl)) ?_
  refine Z.l rfl rfl (by rfl) (Z.keepS hs) (Z.Yd.load rfl Try.isAgg3 (fun _ => Z.cellB (cs := x.cells.toArray) (by first | ((repeat (first | exact List.mem_cons_self | refine List.mem_cons_of_mem _ ?_ | refine List.mem_append_right _ ?_)); done) | fail) rfl)) ?_
  refine Z.lnil ?_
  refine Z.only [0, 4, 5, 6, 31] rfl ?_
  refine Z.nthen ?_
  refine Z.block ?_
  refine Z.seq ?_
  refine Z.region ?_
  refine Z.lb 2 rfl ?_
  refine Z.lnil ?_
  refine Z.only [0, 4, 5, 6, 31, 32] rfl ?_
  refine Z.nthen ?_
  refine Z.cond rfl (fun h => absurd h (by simp [hk])) (fun hc2 => ?_)
  refine Z.seq ?_
  refine Z.region ?_
  refine Z.lb 2 rfl ?_
  refine Z.lnil ?_
  refine Z.only [0, 4, 5, 6, 31, 54] rfl ?_
  refine Z.nthen ?_
  refine Z.cond rfl (fun h => absurd h (by simp [hk])) (fun hc6 => ?_)
  refine Z.seq ?_
  refine Z.region ?_
  refine Z.lb 2 rfl ?_
  refine Z.lnil ?_
  refine Z.only [0, 4, 5, 6, 31, 89] rfl ?_
  refine Z.nthen ?_
  refine Z.cond rfl (fun h => absurd h (by simp [hk])) (fun hc10 => ?_)
  refine Z.seq ?_
  refine Z.seq ?_
  refine Z.region ?_
  refine Z.lb 2 rfl ?_
  refine Z.lnil ?_
  refine Z.only [0, 4, 5, 6, 31, 124] rfl ?_
  refine Z.nthen ?_
  refine Z.cond rfl (fun h => absurd h (by simp [hk])) (fun hc14 => ?_)
  refine Z.region ?_
  refine Z.lb 2 rfl ?_
  refine Z.lnil ?_
  refine Z.only [0, 4, 5, 6, 31, 124] rfl ?_
  refine Z.nthen ?_
  refine Z.cond rfl (fun hc15 => ?_) (fun h => absurd h (by simp [hk]))
  refine Z.seq ?_
  refine Z.region ?_
  refine Z.l rfl rfl (by rfl) (Z.keepS hs) (Z.Yd.fieldA (m := 6) rfl (by kernel_rfl)) ?_
  refine Z.l rfl rfl (by rfl) (Z.keepS hs) (Z.Yd.loadA _ rfl Try.isAgg40 (fun _ => Z.cellsBo (cs := x.cells) [.int .i64 x.lc, .slice x.A x.l.length x.c] (by first | ((repeat (first | exact List.mem_cons_self | refine List.mem_cons_of_mem _ ?_ | refine List.mem_append_right _ ?_)); done) | fail) ⟨[], rfl⟩) (by exact Try.sizeOf40)) ?_
  refine Z.le rfl trivial ?_
  refine Z.ZO.alloc rfl rfl (by rfl) Try.zeroValue40 rfl hs ?_
  clear hs; intro g21 w21 hs
  refine Z.le rfl trivial ?_
  first | refine Z.ZO.storeA rfl rfl hs rfl rfl (by kernel_rfl) (by first | (simp [Value.oneCell']; done) | (refine Z.all_one ?_; assumption)) (by first | exact SX.at0 | exact SX.at1 | exact SX.at2 | exact SX.at3 | exact SX.at4 | exact SX.at5 | exact Z.at6 | exact Z.at7 | exact Z.at8 | exact Z.at9 | exact Z.at10 | exact Z.at11 | exact Z.at12) (by rfl) ?_ | refine Z.ZO.storeP rfl rfl hs rfl rfl (by kernel_rfl) (by first | (simp [Value.oneCell']; done) | (refine Z.all_one ?_; assumption)) (by first | exact SX.at0 | exact SX.at1 | exact SX.at2 | exact SX.at3 | exact SX.at4 | exact SX.at5 | exact Z.at6 | exact Z.at7 | exact Z.at8 | exact Z.at9 | exact Z.at10 | exact Z.at11 | exact Z.at12) (by first | decide | (simp; done) | (simp; omega)) ?_ | refine Z.ZO.storePR rfl rfl hs rfl rfl (by kernel_rfl) (by first | (simp [Value.oneCell']; done) | (refine Z.all_one ?_; assumption)) (by first | exact SX.at0 | exact SX.at1 | exact SX.at2 | exact SX.at3 | exact SX.at4 | exact SX.at5 | exact Z.at6 | exact Z.at7 | exact Z.at8 | exact Z.at9 | exact Z.at10 | exact Z.at11 | exact Z.at12) (by first | decide | (simp; done) | (simp; omega)) ?_
  clear hs; intro ws hs
  simp only [Nat.zero_add, Nat.add_zero, Nat.reduceAdd, Int.reduceToNat, Nat.reduceMul, List.set_cons_zero, List.set_cons_succ, List.setIfInBounds_toArray] at hs
  try simp only [Z.putL, Nat.zero_add] at hs
  refine Z.lnil ?_
  refine Z.only [0, 4, 5, 6, 21] rfl ?_
  refine Z.nthen ?_
  refine Z.seq ?_
  refine Z.seq ?_
  refine Z.region ?_
  refine Z.l rfl rfl (by rfl) (Z.keepS hs) (Z.Yd.fieldA (m := 0) rfl (by kernel_rfl)) ?_
  refine Z.l rfl rfl (by rfl) (Z.keepS hs) (Z.Yd.load rfl Try.isAgg3 (fun _ => Z.cellB (cs := x.cells.toArray) (by first | ((repeat (first | exact List.mem_cons_self | refine List.mem_cons_of_mem _ ?_ | refine List.mem_append_right _ ?_)); done) | fail) rfl)) ?_
  refine Z.lb 1 rfl ?_
  refine Z.lnil ?_
  refine Z.only [0, 4, 5, 6, 21, 131] rfl ?_
  refine Z.nthen ?_
  refine Z.cond rfl (fun hc17 => ?_) (fun h => absurd h (by simp [hk]))
  refine Z.region ?_
  refine Z.l rfl rfl (by rfl) (Z.keepS hs) (Z.Yd.loadA _ rfl Try.isAgg51 (fun _ => Z.cellsB (cs := m.cells) (by first | ((repeat (first | exact List.mem_cons_self | refine List.mem_cons_of_mem _ ?_ | refine List.mem_append_right _ ?_)); done) | fail)) (by exact Try.sizeOf51)) ?_
  refine Z.le rfl trivial ?_
  refine Z.ZO.call rfl rfl (by rfl) rfl rfl Try.call42 rfl (acr_message m _ hm.cfg) ?_
  rintro v18_1 w18_1 ⟨Bm, cm, com, rfl, hy⟩
  replace hs := hs.call hy
  clear hy
  try simp only [List.cons_append, List.nil_append, List.append_nil] at hs
  refine Z.le rfl trivial ?_
  first | refine Z.ZO.storeA rfl rfl hs rfl rfl (by kernel_rfl) (by first | (simp [Value.oneCell']; done) | (refine Z.all_one ?_; assumption)) (by first | exact SX.at0 | exact SX.at1 | exact SX.at2 | exact SX.at3 | exact SX.at4 | exact SX.at5 | exact Z.at6 | exact Z.at7 | exact Z.at8 | exact Z.at9 | exact Z.at10 | exact Z.at11 | exact Z.at12) (by rfl) ?_ | refine Z.ZO.storeP rfl rfl hs rfl rfl (by kernel_rfl) (by first | (simp [Value.oneCell']; done) | (refine Z.all_one ?_; assumption)) (by first | exact SX.at0 | exact SX.at1 | exact SX.at2 | exact SX.at3 | exact SX.at4 | exact SX.at5 | exact Z.at6 | exact Z.at7 | exact Z.at8 | exact Z.at9 | exact Z.at10 | exact Z.at11 | exact Z.at12) (by first | decide | (simp; done) | (simp; omega)) ?_ | refine Z.ZO.storePR rfl rfl hs rfl rfl (by kernel_rfl) (by first | (simp [Value.oneCell']; done) | (refine Z.all_one ?_; assumption)) (by first | exact SX.at0 | exact SX.at1 | exact SX.at2 | exact SX.at3 | exact SX.at4 | exact SX.at5 | exact Z.at6 | exact Z.at7 | exact Z.at8 | exact Z.at9 | exact Z.at10 | exact Z.at11 | exact Z.at12) (by first | decide | (simp; done) | (simp; omega)) ?_
  clear hs; intro ws hs
  simp only [Nat.zero_add, Nat.add_zero, Nat.reduceAdd, Int.reduceToNat, Nat.reduceMul, List.set_cons_zero, List.set_cons_succ, List.setIfInBounds_toArray] at hs
  try simp only [Z.putL, Nat.zero_add] at hs
  refine Z.lnil ?_
  refine Z.only [0, 4, 5, 6, 21] rfl ?_
  replace hs := hs.nil 5 1
  replace hs : SX.St w M _ [_, _, _, _, _, _, _] := hs.sel [0, 2, 4, 6, 3, 5, 1] (by decide)
  refine Z.nthen ?_
  refine Z.seq ?_
  refine Z.drawL [SX.Ent.blk g21 40 #[.int .i64 (msgC m), .slice Bm (msgL m).length cm], SX.Ent.blk g5 57 x.cells.toArray] (fun _ => true) mixed hs ?_
  clear hs; intro wd19 hs
  refine Z.tb [0] (by kernel_rfl) rfl ⟨_, hs, by first | (simp; done) | exact fun e he => List.mem_append_right _ he⟩ rfl ?_
  refine Z.t 1 rfl rfl rfl (by rfl) (by kernel_rfl) ⟨_, hs, by first | (simp; done) | exact fun e he => List.mem_append_right _ he⟩ (Z.Yd.fieldA (m := 1) rfl (by kernel_rfl)) ?_
  refine Z.t 2 rfl rfl rfl (by rfl) (by kernel_rfl) ⟨_, hs, by first | (simp; done) | exact fun e he => List.mem_append_right _ he⟩ (Z.Yd.load rfl Try.isAgg3 (fun _ => Z.cellB (cs := x.cells.toArray) (by first | ((repeat (first | exact List.mem_cons_self | refine List.mem_cons_of_mem _ ?_ | refine List.mem_append_right _ ?_)); done) | fail) rfl)) ?_
  refine Z.t 3 rfl rfl rfl (by rfl) (by kernel_rfl) ⟨_, hs, by first | (simp; done) | exact fun e he => List.mem_append_right _ he⟩ (Z.Yd.fieldA (m := 0) rfl (by kernel_rfl)) ?_
  refine Z.t 4 rfl rfl rfl (by rfl) (by kernel_rfl) ⟨_, hs, by first | (simp; done) | exact fun e he => List.mem_append_right _ he⟩ (by first | exact Z.Yd.load rfl Try.isAgg3 (fun _ => Z.cellB (by first | ((repeat (first | exact List.mem_cons_self | refine List.mem_cons_of_mem _ ?_ | refine List.mem_append_right _ ?_)); done) | fail) rfl) | exact Z.Yd.load rfl Try.isAgg3 (fun _ => Z.cellO (by assumption) (by simp) (by assumption)) | fail "load 19.4") ?_
  refine Z.t 5 rfl rfl rfl (by rfl) (by kernel_rfl) ⟨_, hs, by first | (simp; done) | exact fun e he => List.mem_append_right _ he⟩ (Z.Yd.fieldA (m := 1) rfl (by kernel_rfl)) ?_
  refine Z.t 6 rfl rfl rfl (by rfl) (by kernel_rfl) ⟨_, hs, by first | (simp; done) | exact fun e he => List.mem_append_right _ he⟩ (by first | exact Z.Yd.load rfl Try.isAgg38 (fun _ => Z.cellB (by first | ((repeat (first | exact List.mem_cons_self | refine List.mem_cons_of_mem _ ?_ | refine List.mem_append_right _ ?_)); done) | fail) rfl) | exact Z.Yd.load rfl Try.isAgg38 (fun _ => Z.cellO (by assumption) (by simp) (by assumption)) | fail "load 19.6") ?_
  refine Z.tn 7 rfl rfl (by kernel_rfl) rfl trivial ?_
  refine Z.ZO.appendG (i0 := Try.t5) (size := 1) (bytes := 1) rfl rfl (by rfl) hs Try.underlying38 (by kernel_rfl) rfl rfl rfl rfl (by decide) rfl rfl (by first | exact SX.at0 | exact SX.at1 | exact SX.at2 | exact SX.at3 | exact SX.at4 | exact SX.at5 | exact Z.at6 | exact Z.at7 | exact Z.at8 | exact Z.at9 | exact Z.at10 | exact Z.at11 | exact Z.at12) ((hs.slm (A := Bm) (by first | ((repeat (first | exact List.mem_cons_self | refine List.mem_cons_of_mem _ ?_ | refine List.mem_append_right _ ?_)); done) | fail))) (by first | rfl | assumption | (simp [ints_length]; done) | (simp [ints_length]; omega)) (by first | exact Z.ints_one | assumption | simp [Value.oneCell']) (by unfold maxLen; omega) (by omega) ?_
  clear hs; intro v142 w142 hs
  simp only [List.set_cons_zero, List.set_cons_succ] at hs
  obtain ⟨Br, cr, rfl⟩ : ∃ Br cr, v142 = .slice Br (0 + (msgL m).length) cr := by
    obtain ⟨B, c, h, -, -, -⟩ := SX.row_slv hs (j := 0) rfl
    exact ⟨B, c, h⟩
  rw [show 0 + (msgL m).length = (msgL m).length from Nat.zero_add _] at hs ⊢
  rw [List.nil_append] at hs
  refine Z.tk (Dn := fun _ => true) (i := 7) (fun _ => ⟨_, hs, by first | (simp; done) | exact fun e he => List.mem_append_right _ he⟩) ?_
  refine Z.t 8 rfl rfl rfl (by rfl) (by kernel_rfl) ⟨_, hs, by first | (simp; done) | exact fun e he => List.mem_append_right _ he⟩ (Z.Yd.buildL [(0, 1), (1, 1)] [.int .i64 0, .slice none 0 0] rfl rfl (by intro w; kernel_rfl)) ?_
  replace hs : SX.St w M _ ([SX.Ent.blk g T m.cells.toArray] ++ [_, _, _, _, _, _]) := hs.sel [3, 0, 1, 2, 4, 5, 6] (by decide)
  refine Z.tn 9 rfl rfl (by kernel_rfl) rfl trivial ?_
  refine Z.ZO.call rfl rfl (by rfl) rfl rfl Try.call16 rfl (ac_resolve g T m x.t (msgC m) Br (msgL m).length cr (msgL m) _ hs.lend hm (Z.row_lentv hs (j := 0) rfl) rfl (by omega) hmb) ?_
  rintro v19_9 w19_9 ⟨rfl, hz⟩
  replace hs := hs.regain hz
  simp only [List.cons_append, List.nil_append] at hs
  refine Z.tk (Dn := fun _ => true) (i := 9) (fun _ => ⟨_, hs, by first | (simp; done) | exact fun e he => List.mem_append_right _ he⟩) ?_
  refine Z.tb [10, 11, 12, 13, 14] (by kernel_rfl) rfl ⟨_, hs, by first | (simp; done) | exact fun e he => List.mem_append_right _ he⟩ rfl ?_
  refine Z.td (by rfl) (by kernel_rfl) ?_
  refine Z.only [0, 4, 5, 6, 21, 22, 23] rfl ?_
  refine Z.nthen ?_
  refine Z.seq ?_
  refine Z.region ?_
  refine Z.l rfl rfl (by rfl) (Z.keepS hs) (Z.Yd.loadA _ rfl Try.isAgg51 (fun _ => Z.cellsB (cs := m.cells) (by first | ((repeat (first | exact List.mem_cons_self | refine List.mem_cons_of_mem _ ?_ | refine List.mem_append_right _ ?_)); done) | fail)) (by exact Try.sizeOf51)) ?_
  refine Z.l rfl rfl (by rfl) (Z.keepS hs) (Z.Yd.fieldA (m := 1) rfl (by kernel_rfl)) ?_
  refine Z.l rfl rfl (by rfl) (Z.keepS hs) (Z.Yd.load rfl Try.isAgg3 (fun _ => Z.cellB (cs := x.cells.toArray) (by first | ((repeat (first | exact List.mem_cons_self | refine List.mem_cons_of_mem _ ?_ | refine List.mem_append_right _ ?_)); done) | fail) rfl)) ?_
  refine Z.l rfl rfl (by rfl) (Z.keepS hs) (by first | exact Z.Yd.loadA _ rfl Try.isAgg40 (fun _ => Z.cellsB (by first | ((repeat (first | exact List.mem_cons_self | refine List.mem_cons_of_mem _ ?_ | refine List.mem_append_right _ ?_)); done) | fail)) (by exact Try.sizeOf40) | fail "load 20.3") ?_
  refine Z.le rfl trivial ?_
  refine Z.ZO.call rfl rfl (by rfl) rfl rfl Try.call46 rfl (acr_resolve m x.t (msgC m) Bm (msgL m).length cm (msgL m) _ hm (hs.slm (A := Bm) (by first | ((repeat (first | exact List.mem_cons_self | refine List.mem_cons_of_mem _ ?_ | refine List.mem_append_right _ ?_)); done) | fail)) rfl (by omega) hmb) ?_
  rintro v20_4 w20_4 ⟨rfl, hy⟩
  replace hs := hs.call hy
  clear hy
  try simp only [List.cons_append, List.nil_append, List.append_nil] at hs
  refine Z.lb 4 rfl ?_
  refine Z.le rfl trivial ?_
  refine Z.ZO.alloc rfl rfl (by rfl) Try.zeroValue51 rfl hs ?_
  clear hs; intro g24 w24 hs
  refine Z.le rfl trivial ?_
  first | refine Z.ZO.storeA rfl rfl hs rfl rfl (by kernel_rfl) (by first | (simp [Value.oneCell']; done) | (refine Z.all_one ?_; assumption)) (by first | exact SX.at0 | exact SX.at1 | exact SX.at2 | exact SX.at3 | exact SX.at4 | exact SX.at5 | exact Z.at6 | exact Z.at7 | exact Z.at8 | exact Z.at9 | exact Z.at10 | exact Z.at11 | exact Z.at12) (by rfl) ?_ | refine Z.ZO.storeP rfl rfl hs rfl rfl (by kernel_rfl) (by first | (simp [Value.oneCell']; done) | (refine Z.all_one ?_; assumption)) (by first | exact SX.at0 | exact SX.at1 | exact SX.at2 | exact SX.at3 | exact SX.at4 | exact SX.at5 | exact Z.at6 | exact Z.at7 | exact Z.at8 | exact Z.at9 | exact Z.at10 | exact Z.at11 | exact Z.at12) (by first | decide | (simp; done) | (simp; omega)) ?_ | refine Z.ZO.storePR rfl rfl hs rfl rfl (by kernel_rfl) (by first | (simp [Value.oneCell']; done) | (refine Z.all_one ?_; assumption)) (by first | exact SX.at0 | exact SX.at1 | exact SX.at2 | exact SX.at3 | exact SX.at4 | exact SX.at5 | exact Z.at6 | exact Z.at7 | exact Z.at8 | exact Z.at9 | exact Z.at10 | exact Z.at11 | exact Z.at12) (by first | decide | (simp; done) | (simp; omega)) ?_
  clear hs; intro ws hs
  simp only [Nat.zero_add, Nat.add_zero, Nat.reduceAdd, Int.reduceToNat, Nat.reduceMul, List.set_cons_zero, List.set_cons_succ, List.setIfInBounds_toArray] at hs
  try simp only [Z.putL, Nat.zero_add] at hs
  refine Z.lb 2 rfl ?_
  refine Z.lnil ?_
  refine Z.only [0, 6, 22, 23, 24, 25, 26] rfl ?_
  refine Z.nthen ?_
  refine Z.seq ?_
  refine Z.drawL [SX.Ent.blk g24 51 ((resolveV m x.t (msgC m) (msgL m)).1).cells.toArray, SX.Ent.blk g T ((resolveV m x.t (msgC m) (msgL m)).1).cells.toArray] (fun _ => true) mixed hs ?_
  clear hs; intro wd21 hs
  refine Z.t 0 rfl rfl rfl (by rfl) (by kernel_rfl) ⟨_, hs, by first | (simp; done) | exact fun e he => List.mem_append_right _ he⟩ (Z.Yd.loadA _ rfl Try.isAgg51 (fun _ => Z.cellsB (cs := (resolveV m x.t (msgC m) (msgL m)).1.cells) (by first | ((repeat (first | exact List.mem_cons_self | refine List.mem_cons_of_mem _ ?_ | refine List.mem_append_right _ ?_)); done) | fail)) (by exact Try.sizeOf51)) ?_
  refine Z.tb [1, 2] (by kernel_rfl) rfl ⟨_, hs, by first | (simp; done) | exact fun e he => List.mem_append_right _ he⟩ rfl ?_
  refine Z.t 3 rfl rfl rfl (by rfl) (by kernel_rfl) ⟨_, hs, by first | (simp; done) | exact fun e he => List.mem_append_right _ he⟩ (Z.Yd.bin rfl rfl (by intro _ w; go_simp; try rfl)) ?_
  refine Z.tb [4, 5, 6, 7, 8, 9, 10] (by kernel_rfl) rfl ⟨_, hs, by first | (simp; done) | exact fun e he => List.mem_append_right _ he⟩ rfl ?_
  refine Z.t 11 rfl rfl rfl (by rfl) (by kernel_rfl) ⟨_, hs, by first | (simp; done) | exact fun e he => List.mem_append_right _ he⟩ (Z.Yd.loadA _ rfl Try.isAgg51 (fun _ => Z.cellsB (cs := (resolveV m x.t (msgC m) (msgL m)).1.cells) (by first | ((repeat (first | exact List.mem_cons_self | refine List.mem_cons_of_mem _ ?_ | refine List.mem_append_right _ ?_)); done) | fail)) (by exact Try.sizeOf51)) ?_
  refine Z.yes (s := 165) (b := true) rfl (by simp) rfl ?_
  refine Z.tn 12 rfl rfl (by kernel_rfl) rfl (by exact ⟨rfl, trivial⟩) ?_
  refine Z.ZO.call rfl rfl (by rfl) rfl rfl Try.call21 rfl (ac_agrees g (resolveV m x.t (msgC m) (msgL m)).1 _ (hs.celOf (cs := (resolveV m x.t (msgC m) (msgL m)).1.cells) (by first | ((repeat (first | exact List.mem_cons_self | refine List.mem_cons_of_mem _ ?_ | refine List.mem_append_right _ ?_)); done) | fail)) (hm.resolve _ _ _).cfg) ?_
  rintro v21_12 w21_12 ⟨rfl, hy⟩
  replace hs := hs.call hy
  clear hy
  try simp only [List.cons_append, List.nil_append, List.append_nil] at hs
  refine Z.tk (Dn := fun _ => true) (i := 12) (fun _ => ⟨_, hs, by first | (simp; done) | exact fun e he => List.mem_append_right _ he⟩) ?_
  refine Z.tb [13] (by kernel_rfl) rfl ⟨_, hs, by first | (simp; done) | exact fun e he => List.mem_append_right _ he⟩ rfl ?_
  refine Z.tn 14 rfl rfl (by kernel_rfl) rfl trivial ?_
  first | refine Z.ZO.storeA rfl rfl hs rfl rfl (by kernel_rfl) (by first | (simp [Value.oneCell']; done) | (refine Z.all_one ?_; assumption)) (by first | exact SX.at0 | exact SX.at1 | exact SX.at2 | exact SX.at3 | exact SX.at4 | exact SX.at5 | exact Z.at6 | exact Z.at7 | exact Z.at8 | exact Z.at9 | exact Z.at10 | exact Z.at11 | exact Z.at12) (by rfl) ?_ | refine Z.ZO.storeP rfl rfl hs rfl rfl (by kernel_rfl) (by first | (simp [Value.oneCell']; done) | (refine Z.all_one ?_; assumption)) (by first | exact SX.at0 | exact SX.at1 | exact SX.at2 | exact SX.at3 | exact SX.at4 | exact SX.at5 | exact Z.at6 | exact Z.at7 | exact Z.at8 | exact Z.at9 | exact Z.at10 | exact Z.at11 | exact Z.at12) (by first | decide | (simp; done) | (simp; omega)) ?_ | refine Z.ZO.storePR rfl rfl hs rfl rfl (by kernel_rfl) (by first | (simp [Value.oneCell']; done) | (refine Z.all_one ?_; assumption)) (by first | exact SX.at0 | exact SX.at1 | exact SX.at2 | exact SX.at3 | exact SX.at4 | exact SX.at5 | exact Z.at6 | exact Z.at7 | exact Z.at8 | exact Z.at9 | exact Z.at10 | exact Z.at11 | exact Z.at12) (by first | decide | (simp; done) | (simp; omega)) ?_
  clear hs; intro ws hs
  simp only [Nat.zero_add, Nat.add_zero, Nat.reduceAdd, Int.reduceToNat, Nat.reduceMul, List.set_cons_zero, List.set_cons_succ, List.setIfInBounds_toArray] at hs
  try simp only [Z.putL, Nat.zero_add] at hs
  refine Z.tk (Dn := fun _ => true) (i := 14) (fun _ => ⟨_, hs, by first | (simp; done) | exact fun e he => List.mem_append_right _ he⟩) ?_
  refine Z.tb [15] (by kernel_rfl) rfl ⟨_, hs, by first | (simp; done) | exact fun e he => List.mem_append_right _ he⟩ rfl ?_
  refine Z.td (by rfl) (by kernel_rfl) ?_
  refine Z.only [6, 7] rfl ?_
  refine Z.nthen ?_
  refine Z.ret ?_
  repeat (first | refine Z.rthen ?_ | refine Z.rblock ?_ | refine Z.rscope ?_)
  -- ret#0
  refine Z.out2 (by exact ⟨⟨_, rfl, Z.rvcA hs Try.isAgg51 (by first | ((repeat (first | exact List.mem_cons_self | refine List.mem_cons_of_mem _ ?_ | refine List.mem_append_right _ ?_)); done) | fail) (by exact Try.sizeOf51)⟩, rfl, trivial⟩) ?_
  exact ⟨_, rfl, rfl, hs.sel [1] (by decide)⟩
theorem ac_do (g T : Nat) (m : AcV) (x : AxV) (w : World) (hs : SX.St w (SX.idsOf [SX.Ent.blk g T m.cells.toArray]) w [SX.Ent.blk g T m.cells.toArray]) (hm : m.ok) (hx : GoodX w (SX.idsOf [SX.Ent.blk g T m.cells.toArray]) x) :
    Calls Try.prog 22 #[.pointer (some ⟨g, 0, none⟩), .agg m.cells.toArray, .agg x.cells.toArray] w (SX.Ret fun v w' => v = .tuple #[.agg (doV m x).cells.toArray, .bool true] ∧ SX.St w (SX.idsOf [SX.Ent.blk g T m.cells.toArray]) w' [SX.Ent.blk g T (doV m x).cells.toArray]) := by
  unfold doV
  by_cases h0 : x.k = 0
  · rw [if_pos h0]; exact ac_do0 g T m x w hs hm hx h0
  rw [if_neg h0]
  by_cases h1 : x.k = 1
  · rw [if_pos h1]; exact ac_do1 g T m x w hs hm hx h1
  rw [if_neg h1]
  by_cases h2 : x.k = 2
  · rw [if_pos h2]; exact ac_do2 g T m x w hs hm hx h2
  rw [if_neg h2]
  by_cases h3 : x.k = 3
  · rw [if_pos h3]; exact ac_do3 g T m x w hs hm hx h3
  rw [if_neg h3]
  by_cases h5 : x.k = 5
  · rw [if_pos h5]; exact ac_do5 g T m x w hs hm hx h5
  rw [if_neg h5]
  by_cases h4 : x.k = 4
  · rw [if_pos h4]; exact ac_do4 g T m x w hs hm hx h4
  rw [if_neg h4]
  exact ac_doN g T m x w hs hm hx ⟨h0, h1, h2, h3, h4, h5⟩
end Go.Proofs.Ytjgfooakcljddaa

/- Random access of a handset: the examples of the chapter. -/
namespace Go.Proofs.Ytjgfooakcljddaa
open Go.RowKit
set_option linter.unusedSimpArgs false
set_option linter.unusedVariables false
--newlaws

theorem ac_newT (i r n c x : Int) (w : World) (hi : 0 ≤ i) (h : (newV i r n c x).cfg) : Calls Try.prog 9 #[.agg #[.int .u64 i, .int .i64 r, .int .i64 n, .int .i64 c, .int .i64 x]] w (SX.Ret fun v w' => ∃ g, v = .tuple #[.pointer (some ⟨g, 0, none⟩), .int .i64 0] ∧ SX.St w [] w' [SX.Ent.blk g 64 (newV i r n c x).cells.toArray]) := by
  have h1 := ac_new i r n c x w hi
  simpa only [if_pos h] using h1
theorem ac_newF (i r n c x : Int) (w : World) (hi : 0 ≤ i) (h : ¬ (newV i r n c x).cfg) : Calls Try.prog 9 #[.agg #[.int .u64 i, .int .i64 r, .int .i64 n, .int .i64 c, .int .i64 x]] w (SX.Ret fun v w' => v = .tuple #[.pointer none, .int .i64 2] ∧ SX.St w [] w' []) := by
  have h1 := ac_new i r n c x w hi
  simpa only [if_neg h] using h1
def kA0 : AcV := newV 5 0 2 8 2
def kA1 : AcV := (startV kA0 10).1
def kA2 : AcV := (sendV kA1 10 70).1
def kA3 : AcV := (answerV kA2 12 6 9 0).1
def kA4 : AcV := (answerV kA3 13 7 9 0).1
def kA5 : AcV := (answerV kA4 14 6 9 0).1
def kA6 : AcV := (resolveV kA5 20 28 [0, 0, 0, 0, 0, 5]).1
set_option maxHeartbeats 1000000 in
set_option maxRecDepth 100000 in
theorem ac_known (w : World) : Calls Try.prog 10 #[] w (SX.Ret fun v w' => v = .bool true ∧ SX.St w [] w' []) := by
  have hs := SX.St.start w
  have o0 : kA0.ok := newV_ok (by decide +kernel)
  have o1 : kA1.ok := o0.start 10
  have o2 : kA2.ok := o1.send 10 70
  have o3 : kA3.ok := o2.answer 12 6 9 0
  have o4 : kA4.ok := o3.answer 13 7 9 0
  have o5 : kA5.ok := o4.answer 14 6 9 0
  have o6 : kA6.ok := o5.resolve 20 28 [0, 0, 0, 0, 0, 5]
  have q1 : (startV kA0 10).2 = 0 := by decide +kernel
  have q2 : (sendV kA1 10 70).2.1 = 6 := by decide +kernel
  have q3 : (sendV kA1 10 70).2.2 = 0 := by decide +kernel
  have q4 : (answerV kA2 12 6 9 0).2.1 = false := by decide +kernel
  have q5 : (answerV kA2 12 6 9 0).2.2 = 8 := by decide +kernel
  have q6 : (answerV kA3 13 7 9 0).2.1 = false := by decide +kernel
  have q7 : (answerV kA3 13 7 9 0).2.2 = 0 := by decide +kernel
  have q8 : (answerV kA4 14 6 9 0).2.1 = true := by decide +kernel
  have q9 : (answerV kA4 14 6 9 0).2.2 = 0 := by decide +kernel
  have q10 : (resolveV kA5 20 28 [0, 0, 0, 0, 0, 5]).2.1 = true := by decide +kernel
  have q11 : (resolveV kA5 20 28 [0, 0, 0, 0, 0, 5]).2.2 = 0 := by decide +kernel
  have q12 : useV kA6 = 9 := by decide +kernel
  have q13 : acB 5 1 10 = 3 := by decide +kernel
  have q14 : acB 5 1 0 = 0 := by decide +kernel
  have q15 : kA5.st = 3 := by decide +kernel
  have q16 : msgC kA5 = 28 := by decide +kernel
  have q17 : msgL kA5 = [0, 0, 0, 0, 0, 5] := by decide +kernel
  have hb5 : Byts [0, 0, 0, 0, 0, 5] := by8 (by decide)
  refine Z.enter Try.func10 rfl Try.ntmps10 rfl rfl ?_
  refine Z.seq ?_
  refine Z.region ?_
  refine Z.lb 1 rfl ?_
  refine Z.lnil ?_
  refine Z.only [] rfl ?_
  refine Z.nthen ?_
  refine Z.seq ?_
  refine Z.region ?_
  refine Z.l rfl rfl (by rfl) (Z.keepS hs) (Z.Yd.buildL [(0, 1), (1, 1), (2, 1), (3, 1), (4, 1)] [.int .u64 0, .int .i64 0, .int .i64 0, .int .i64 0, .int .i64 0] rfl rfl (by intro w; kernel_rfl)) ?_
  refine Z.le rfl trivial ?_
  refine Z.ZO.call rfl rfl (by rfl) rfl rfl Try.call9 rfl (ac_newT 5 0 2 8 2 _ (by decide) (by decide +kernel)) ?_
  rintro v1_1 w1_1 ⟨ga, rfl, hy⟩
  replace hs := hs.call hy
  clear hy
  try simp only [List.cons_append, List.nil_append, List.append_nil] at hs
  replace hs : SX.St w [] _ [SX.Ent.blk ga 64 kA0.cells.toArray] := hs
  refine Z.lb 5 rfl ?_
  refine Z.lnil ?_
  refine Z.only [1, 2] rfl ?_
  refine Z.nthen ?_
  refine Z.seq ?_
  refine Z.seq ?_
  refine Z.region ?_
  refine Z.lb 3 rfl ?_
  refine Z.yes (s := 23) (b := false) rfl ((by simp)) rfl ?_
  refine Z.lb 1 rfl ?_
  refine Z.yes (s := 23) (b := false) rfl rfl rfl ?_
  refine Z.le rfl (by exact ⟨rfl, trivial⟩) ?_
  refine Z.ZO.call rfl rfl (by rfl) rfl rfl Try.call11 rfl (ac_start ga _ kA0 10 _ hs.all o0) ?_
  rintro v2_4 w2_4 ⟨rfl, hz⟩
  replace hs : SX.St w [] _ [SX.Ent.blk ga 64 kA1.cells.toArray] := hs.regainAll hz
  rw [q1]
  refine Z.lb 1 rfl ?_
  refine Z.yes (s := 23) (b := false) rfl rfl rfl ?_
  refine Z.l rfl rfl (by rfl) (Z.keepS hs) (Z.Yd.pickF rfl rfl) ?_
  refine Z.lnil ?_
  refine Z.only [1, 27] rfl ?_
  refine Z.nthen ?_
  refine Z.cond rfl (fun h => absurd h (by simp)) (fun hc2 => ?_)
  refine Z.skip ?_
  refine Z.nthen ?_
  refine Z.seq ?_
  refine Z.region ?_
  refine Z.lb 1 rfl ?_
  refine Z.le rfl trivial ?_
  refine Z.ZO.call rfl rfl (by rfl) rfl rfl Try.call12 rfl (ac_send ga _ kA1 10 70 _ hs.all o1) ?_
  rintro v4_1 w4_1 ⟨rfl, hz⟩
  replace hs : SX.St w [] _ [SX.Ent.blk ga 64 kA2.cells.toArray] := hs.regainAll hz
  rw [q2, q3]
  refine Z.lb 5 rfl ?_
  refine Z.lnil ?_
  refine Z.only [1, 3, 4] rfl ?_
  refine Z.nthen ?_
  refine Z.seq ?_
  refine Z.region ?_
  refine Z.lb 1 rfl ?_
  refine Z.l rfl rfl (by rfl) (Z.keepS hs) (Z.Yd.buildL [(0, 1), (1, 1), (2, 1)] [.int .i64 0, .int .i64 0, .int .i64 0] rfl rfl (by intro w; kernel_rfl)) ?_
  refine Z.le rfl trivial ?_
  refine Z.ZO.call rfl rfl (by rfl) rfl rfl Try.call13 rfl (ac_answer ga _ kA2 12 6 9 0 _ hs.all o2) ?_
  rintro v5_2 w5_2 ⟨rfl, hz⟩
  replace hs : SX.St w [] _ [SX.Ent.blk ga 64 kA3.cells.toArray] := hs.regainAll hz
  rw [q4, q5]
  refine Z.lb 5 rfl ?_
  refine Z.lnil ?_
  refine Z.only [1, 3, 4, 5, 6] rfl ?_
  refine Z.nthen ?_
  refine Z.seq ?_
  refine Z.region ?_
  refine Z.lb 1 rfl ?_
  refine Z.l rfl rfl (by rfl) (Z.keepS hs) (Z.Yd.buildL [(0, 1), (1, 1), (2, 1)] [.int .i64 0, .int .i64 0, .int .i64 0] rfl rfl (by intro w; kernel_rfl)) ?_
  refine Z.le rfl trivial ?_
  refine Z.ZO.call rfl rfl (by rfl) rfl rfl Try.call13 rfl (ac_answer ga _ kA3 13 7 9 0 _ hs.all o3) ?_
  rintro v6_2 w6_2 ⟨rfl, hz⟩
  replace hs : SX.St w [] _ [SX.Ent.blk ga 64 kA4.cells.toArray] := hs.regainAll hz
  rw [q6, q7]
  refine Z.lb 5 rfl ?_
  refine Z.lnil ?_
  refine Z.only [1, 3, 4, 5, 6, 7, 8] rfl ?_
  refine Z.nthen ?_
  refine Z.seq ?_
  refine Z.region ?_
  refine Z.lb 1 rfl ?_
  refine Z.l rfl rfl (by rfl) (Z.keepS hs) (Z.Yd.buildL [(0, 1), (1, 1), (2, 1)] [.int .i64 0, .int .i64 0, .int .i64 0] rfl rfl (by intro w; kernel_rfl)) ?_
  refine Z.le rfl trivial ?_
  refine Z.ZO.call rfl rfl (by rfl) rfl rfl Try.call13 rfl (ac_answer ga _ kA4 14 6 9 0 _ hs.all o4) ?_
  rintro v7_2 w7_2 ⟨rfl, hz⟩
  replace hs : SX.St w [] _ [SX.Ent.blk ga 64 kA5.cells.toArray] := hs.regainAll hz
  rw [q8, q9]
  refine Z.lb 5 rfl ?_
  refine Z.lnil ?_
  refine Z.only [1, 3, 4, 5, 6, 7, 8, 9, 10] rfl ?_
  refine Z.nthen ?_
  refine Z.seq ?_
  refine Z.region ?_
  refine Z.lb 1 rfl ?_
  refine Z.le rfl trivial ?_
  refine Z.ZO.call rfl rfl (by rfl) rfl rfl Try.call15 rfl (ac_Message3 ga kA5 _ (hs.celOf (by first | ((repeat (first | exact List.mem_cons_self | refine List.mem_cons_of_mem _ ?_ | refine List.mem_append_right _ ?_)); done) | fail)) o5.cfg q15) ?_
  rintro v8_1 w8_1 ⟨u, rfl, Bm, cm, com, rfl, hy⟩
  replace hs := hs.call hy
  clear hy
  try simp only [List.cons_append, List.nil_append, List.append_nil] at hs
  rw [q16, q17]
  rw [q17] at hs
  refine Z.lb 3 rfl ?_
  refine Z.le rfl trivial ?_
  refine Z.ZO.alloc rfl rfl (by rfl) Try.zeroValue40 rfl hs ?_
  clear hs; intro g11 w11 hs
  refine Z.le rfl trivial ?_
  first | refine Z.ZO.storeA rfl rfl hs rfl rfl (by kernel_rfl) (by first | (simp [Value.oneCell']; done) | (refine Z.all_one ?_; assumption)) (by first | exact SX.at0 | exact SX.at1 | exact SX.at2 | exact SX.at3 | exact SX.at4 | exact SX.at5 | exact Z.at6 | exact Z.at7 | exact Z.at8 | exact Z.at9 | exact Z.at10 | exact Z.at11 | exact Z.at12) (by rfl) ?_ | refine Z.ZO.storeP rfl rfl hs rfl rfl (by kernel_rfl) (by first | (simp [Value.oneCell']; done) | (refine Z.all_one ?_; assumption)) (by first | exact SX.at0 | exact SX.at1 | exact SX.at2 | exact SX.at3 | exact SX.at4 | exact SX.at5 | exact Z.at6 | exact Z.at7 | exact Z.at8 | exact Z.at9 | exact Z.at10 | exact Z.at11 | exact Z.at12) (by first | decide | (simp; done) | (simp; omega)) ?_ | refine Z.ZO.storePR rfl rfl hs rfl rfl (by kernel_rfl) (by first | (simp [Value.oneCell']; done) | (refine Z.all_one ?_; assumption)) (by first | exact SX.at0 | exact SX.at1 | exact SX.at2 | exact SX.at3 | exact SX.at4 | exact SX.at5 | exact Z.at6 | exact Z.at7 | exact Z.at8 | exact Z.at9 | exact Z.at10 | exact Z.at11 | exact Z.at12) (by first | decide | (simp; done) | (simp; omega)) ?_
  clear hs; intro ws hs
  simp only [Nat.zero_add, Nat.add_zero, Nat.reduceAdd, Int.reduceToNat, Nat.reduceMul, List.set_cons_zero, List.set_cons_succ, List.setIfInBounds_toArray] at hs
  try simp only [Z.putL, Nat.zero_add] at hs
  refine Z.lb 1 rfl ?_
  refine Z.lnil ?_
  refine Z.only [1, 3, 4, 5, 6, 7, 8, 9, 10, 11, 12] rfl ?_
  refine Z.nthen ?_
  refine Z.seq ?_
  refine Z.region ?_
  refine Z.le rfl trivial ?_
  refine Z.ZO.litL (T' := 5) [(0, 1), (1, 1), (2, 1), (3, 1), (4, 1), (5, 1)] [.int .u8 0, .int .u8 0, .int .u8 0, .int .u8 0, .int .u8 0, .int .u8 0] rfl rfl (by rfl) rfl rfl (by intro W; kernel_rfl) hs ?_
  clear hs; intro g56 w56 hs
  refine Z.l rfl rfl (by rfl) (Z.keepS hs) (Z.Yd.buildL [(0, 1), (1, 1)] [.int .i64 0, .slice none 0 0] rfl rfl (by intro w; kernel_rfl)) ?_
  refine Z.le rfl trivial ?_
  refine Z.ZO.alloc rfl rfl (by rfl) Try.zeroValue40 rfl hs ?_
  clear hs; intro g13 w13 hs
  refine Z.le rfl trivial ?_
  first | refine Z.ZO.storeA rfl rfl hs rfl rfl (by kernel_rfl) (by first | (simp [Value.oneCell']; done) | (refine Z.all_one ?_; assumption)) (by first | exact SX.at0 | exact SX.at1 | exact SX.at2 | exact SX.at3 | exact SX.at4 | exact SX.at5 | exact Z.at6 | exact Z.at7 | exact Z.at8 | exact Z.at9 | exact Z.at10 | exact Z.at11 | exact Z.at12) (by rfl) ?_ | refine Z.ZO.storeP rfl rfl hs rfl rfl (by kernel_rfl) (by first | (simp [Value.oneCell']; done) | (refine Z.all_one ?_; assumption)) (by first | exact SX.at0 | exact SX.at1 | exact SX.at2 | exact SX.at3 | exact SX.at4 | exact SX.at5 | exact Z.at6 | exact Z.at7 | exact Z.at8 | exact Z.at9 | exact Z.at10 | exact Z.at11 | exact Z.at12) (by first | decide | (simp; done) | (simp; omega)) ?_ | refine Z.ZO.storePR rfl rfl hs rfl rfl (by kernel_rfl) (by first | (simp [Value.oneCell']; done) | (refine Z.all_one ?_; assumption)) (by first | exact SX.at0 | exact SX.at1 | exact SX.at2 | exact SX.at3 | exact SX.at4 | exact SX.at5 | exact Z.at6 | exact Z.at7 | exact Z.at8 | exact Z.at9 | exact Z.at10 | exact Z.at11 | exact Z.at12) (by first | decide | (simp; done) | (simp; omega)) ?_
  clear hs; intro ws hs
  simp only [Nat.zero_add, Nat.add_zero, Nat.reduceAdd, Int.reduceToNat, Nat.reduceMul, List.set_cons_zero, List.set_cons_succ, List.setIfInBounds_toArray] at hs
  try simp only [Z.putL, Nat.zero_add] at hs
  refine Z.lnil ?_
  refine Z.only [1, 3, 4, 5, 6, 7, 8, 9, 10, 11, 12, 13] rfl ?_
  refine Z.nthen ?_
  refine Z.seq ?_
  refine Z.region ?_
  refine Z.lb 1 rfl ?_
  refine Z.l rfl rfl (by rfl) (Z.keepS hs) (by first | exact Z.Yd.loadA _ rfl Try.isAgg40 (fun _ => Z.cellsB (by first | ((repeat (first | exact List.mem_cons_self | refine List.mem_cons_of_mem _ ?_ | refine List.mem_append_right _ ?_)); done) | fail)) (by exact Try.sizeOf40) | fail "load 10.1") ?_
  replace hs : SX.St w [] _ ([SX.Ent.blk ga 64 kA5.cells.toArray] ++ [SX.Ent.blk g56 _ _, _, _, _]) := hs.sel [4, 1, 0, 2, 3] (by decide)
  refine Z.le rfl trivial ?_
  refine Z.ZO.call rfl rfl (by rfl) rfl rfl Try.call16 rfl (ac_resolve ga _ kA5 20 28 _ 6 6 [0, 0, 0, 0, 0, 5] _ hs.lend o5 (by have h0 := Z.blk_lentj hs (j := 0) rfl; exact h0) rfl (by decide) hb5) ?_
  rintro v10_2 w10_2 ⟨rfl, hz⟩
  replace hs := hs.regain hz
  replace hs : SX.St w [] _ [SX.Ent.blk ga 64 kA6.cells.toArray, _, _, _, _] := hs
  rw [q10, q11]
  refine Z.lb 5 rfl ?_
  refine Z.lnil ?_
  refine Z.only [1, 3, 4, 5, 6, 7, 8, 9, 10, 11, 12, 13, 14, 15] rfl ?_
  refine Z.nthen ?_
  refine Z.seq ?_
  refine Z.region ?_
  refine Z.lb 30 rfl ?_
  refine Z.yes (s := 93) (b := true) rfl ((by simp)) rfl ?_
  refine Z.l rfl rfl (by rfl) (Z.keepS hs) (by first | exact Z.Yd.loadA _ rfl Try.isAgg40 (fun _ => Z.cellsB (by first | ((repeat (first | exact List.mem_cons_self | refine List.mem_cons_of_mem _ ?_ | refine List.mem_append_right _ ?_)); done) | fail)) (by exact Try.sizeOf40) | fail "load 11.30") ?_
  refine Z.l rfl rfl (by rfl) (Z.keepS hs) (by first | exact Z.Yd.loadA _ rfl Try.isAgg40 (fun _ => Z.cellsB (by first | ((repeat (first | exact List.mem_cons_self | refine List.mem_cons_of_mem _ ?_ | refine List.mem_append_right _ ?_)); done) | fail)) (by exact Try.sizeOf40) | fail "load 11.31") ?_
  refine Z.yes (s := 93) (b := true) rfl rfl rfl ?_
  refine Z.le rfl (by exact ⟨rfl, trivial⟩) ?_
  refine Z.ZO.call rfl rfl (by rfl) rfl rfl Try.call26 rfl (acr_same 28 28 Bm _ _ _ _ _ [0, 0, 0, 0, 0, 5] [0, 0, 0, 0, 0, 5] _ (hs.slm (A := Bm) (by first | ((repeat (first | exact List.mem_cons_self | refine List.mem_cons_of_mem _ ?_ | refine List.mem_append_right _ ?_)); done) | fail)) (by have h0 := hs.blkSl (g := g56) (by first | ((repeat (first | exact List.mem_cons_self | refine List.mem_cons_of_mem _ ?_ | refine List.mem_append_right _ ?_)); done) | fail); exact h0) rfl rfl hb5 hb5) ?_
  rintro v11_32 w11_32 ⟨rfl, hy⟩
  replace hs := hs.call hy
  clear hy
  try simp only [List.cons_append, List.nil_append, List.append_nil] at hs
  refine Z.l rfl rfl (by rfl) (Z.keepS hs) (Z.Yd.pickT rfl rfl) ?_
  refine Z.lb 12 rfl ?_
  refine Z.yes (s := 109) (b := true) rfl ((by simp)) rfl ?_
  refine Z.lb 1 rfl ?_
  refine Z.yes (s := 109) (b := true) rfl rfl rfl ?_
  refine Z.le rfl (by exact ⟨rfl, trivial⟩) ?_
  refine Z.ZO.call rfl rfl (by rfl) rfl rfl Try.call14 rfl (ac_RNTI ga kA6 _ (hs.celOf (by first | ((repeat (first | exact List.mem_cons_self | refine List.mem_cons_of_mem _ ?_ | refine List.mem_append_right _ ?_)); done) | fail)) o6.cfg) ?_
  rintro v11_47 w11_47 ⟨rfl, hy⟩
  replace hs := hs.call hy
  clear hy
  try simp only [List.cons_append, List.nil_append, List.append_nil] at hs
  rw [q12]
  refine Z.lb 1 rfl ?_
  refine Z.yes (s := 109) (b := true) rfl rfl rfl ?_
  refine Z.l rfl rfl (by rfl) (Z.keepS hs) (Z.Yd.pickT rfl rfl) ?_
  refine Z.lb 1 rfl ?_
  refine Z.yes (s := 114) (b := true) rfl ((by simp)) rfl ?_
  refine Z.le rfl (by exact ⟨rfl, trivial⟩) ?_
  refine Z.ZO.call rfl rfl (by rfl) rfl rfl Try.call28 rfl (ac_backoff 5 1 10 _ (by decide)) ?_
  rintro v11_51 w11_51 ⟨rfl, hy⟩
  replace hs := hs.call hy
  clear hy
  try simp only [List.cons_append, List.nil_append, List.append_nil] at hs
  rw [q13]
  refine Z.lb 1 rfl ?_
  refine Z.yes (s := 114) (b := true) rfl rfl rfl ?_
  refine Z.l rfl rfl (by rfl) (Z.keepS hs) (Z.Yd.pickT rfl rfl) ?_
  refine Z.lb 1 rfl ?_
  refine Z.yes (s := 118) (b := true) rfl ((by simp)) rfl ?_
  refine Z.le rfl (by exact ⟨rfl, trivial⟩) ?_
  refine Z.ZO.call rfl rfl (by rfl) rfl rfl Try.call28 rfl (ac_backoff 5 1 0 _ (by decide)) ?_
  rintro v11_55 w11_55 ⟨rfl, hy⟩
  replace hs := hs.call hy
  clear hy
  try simp only [List.cons_append, List.nil_append, List.append_nil] at hs
  rw [q14]
  refine Z.lb 1 rfl ?_
  refine Z.yes (s := 118) (b := true) rfl rfl rfl ?_
  refine Z.l rfl rfl (by rfl) (Z.keepS hs) (Z.Yd.pickT rfl rfl) ?_
  refine Z.lb 1 rfl ?_
  refine Z.lnil ?_
  refine Z.only [0] rfl ?_
  refine Z.nthen ?_
  refine Z.ret ?_
  -- ret#0
  refine Z.out1 (by exact ⟨rfl, trivial⟩) ?_
  exact ⟨_, rfl, by simp, hs.sub (List.nil_sublist _)⟩
end Go.Proofs.Ytjgfooakcljddaa

/- Control elements: any part asz each of the elements. -/
namespace Go.Proofs.Ytjgfooakcljddaa
open Go.RowKit
set_option linter.unusedSimpArgs false
set_option linter.unusedVariables false
--newlaws

theorem rd_part {W : World} {cs : List Value} (z : Rd Try.prog W 40 cs) : ∃ (lc : Int) (A : Option Addr) (m c : Nat) (l : List Int), cs = [.int .i64 lc, .slice A m c] ∧ l.length = m ∧ m ≤ maxLen ∧ Byts l ∧ Sl W A (ints .u8 l) := by
  obtain ⟨hl, hf⟩ := Rd.field Try.underlying40 z
  have c2 : Try.prog.cellsOf 40 = 2 := by kernel_rfl
  have c1 : Try.prog.cellsOf 3 = 1 := by kernel_rfl
  have c0 : Try.prog.cellsOf 38 = 1 := by kernel_rfl
  rw [c2] at hl
  obtain ⟨x0, x1, rfl⟩ := list2 hl
  obtain ⟨lc, hlc, -⟩ := Rd.int Try.underlying3 (hf 0 _ rfl)
  have zb := hf 1 _ rfl
  obtain ⟨A, n, c, hb⟩ := Rd.sliceV Try.underlying38 zb
  rw [hb] at zb
  simp [c1, c0] at hlc hb
  subst hlc hb
  obtain ⟨l, h1, h2, h4, h5⟩ := rd_bytes zb
  exact ⟨lc, A, n, c, l, rfl, h1, h2, h4, h5⟩
end Go.Proofs.Ytjgfooakcljddaa

/- Control elements: decoding undoes encoding; levels are monotonic. -/
namespace Go.Proofs.Ytjgfooakcljddaa
open Go.RowKit
set_option linter.unusedSimpArgs false
set_option linter.unusedVariables false
--newlaws

theorem be3 (n : Int) : be 3 n = [n / 256 / 256 % 256, n / 256 % 256, n % 256] := rfl
theorem rep_ext {r s : RepV} (h1 : r.long = s.long) (h2 : r.group = s.group) (h3 : r.a = s.a) (h4 : r.b = s.b) (h5 : r.c = s.c) (h6 : r.d = s.d) : r = s := by
  cases r; cases s; simp_all
theorem rep_back {r : RepV} (hr : r.ok) : repE (encLc r) (encL r) = 0 ∧ repV (encLc r) (encL r) = r := by
  have hE : repE (encLc r) (encL r) = 0 := by
    unfold repE encLc encL
    cases hl : r.long with
    | true => simp [opE]
    | false => simp [opE]
  refine ⟨hE, ?_⟩
  unfold repV
  rw [if_neg (by omega)]
  obtain ⟨hg, hlg, hj⟩ := (ok_iff r).1 hr
  have ha := (hj 0 (by omega)).1
  have hb := (hj 1 (by omega)).1
  have hc := (hj 2 (by omega)).1
  have hd := (hj 3 (by omega)).1
  unfold okL at ha hb hc hd
  simp only [RepV.lv] at ha hb hc hd
  cases hl : r.long with
  | true =>
    have hg0 := hlg hl
    have e1 : encLc r = 30 := by simp [encLc, hl]
    have e2 : encL r = be 3 (((r.a * 64 + r.b) * 64 + r.c) * 64 + r.d) := by simp [encL, hl]
    rw [e1, e2, if_pos rfl]
    have e3 : num (be 3 (((r.a * 64 + r.b) * 64 + r.c) * 64 + r.d)) = ((r.a * 64 + r.b) * 64 + r.c) * 64 + r.d := by
      rw [be3]
      simp only [num, List.foldl_cons, List.foldl_nil]
      omega
    rw [e3]
    refine rep_ext hl.symm hg0.symm ?_ ?_ ?_ ?_ <;> simp only [RepV.lng] <;> omega
  | false =>
    have e1 : encLc r = 29 := by simp [encLc, hl]
    have e2 : encL r = [64 * r.group + r.lv r.group.toNat] := by simp [encL, hl]
    have h4 := (hj r.group.toNat (by omega)).1
    unfold okL at h4
    have e3 : num [64 * r.group + r.lv r.group.toNat] = 64 * r.group + r.lv r.group.toNat := by simp [num]
    rw [e1, e2, if_neg (by decide), e3, show (64 * r.group + r.lv r.group.toNat) / 64 = r.group from by omega, show (64 * r.group + r.lv r.group.toNat) % 64 = r.lv r.group.toNat from by omega]
    have k0 := (hj 0 (by omega)).2 hl
    have k1 := (hj 1 (by omega)).2 hl
    have k2 := (hj 2 (by omega)).2 hl
    have k3 := (hj 3 (by omega)).2 hl
    simp only [RepV.lv] at k0 k1 k2 k3
    have hgc : r.group = 0 ∨ r.group = 1 ∨ r.group = 2 ∨ r.group = 3 := by omega
    rcases hgc with h | h | h | h <;> rw [h] at k0 k1 k2 k3 ⊢ <;> refine rep_ext hl.symm h.symm ?_ ?_ ?_ ?_ <;> simp [RepV.short, RepV.lv] <;> omega
theorem lng_ok {n : Int} (h : 0 ≤ n ∧ n < 16777216) : (RepV.lng n).ok := by
  refine ⟨by simp [RepV.lng], ?_⟩
  have e : (RepV.lng n).long = true := rfl
  rw [if_pos e]
  refine ⟨rfl, ?_, ?_, ?_, ?_⟩ <;> simp only [RepV.lng, okL] <;> omega
theorem short_ok {g v : Int} (hg : 0 ≤ g ∧ g ≤ 3) (hv : 0 ≤ v ∧ v ≤ 63) : (RepV.short g v).ok := by
  refine (ok_iff _).2 ⟨hg, by simp [RepV.short], fun j hj => ?_⟩
  have hgc : g = 0 ∨ g = 1 ∨ g = 2 ∨ g = 3 := by omega
  have hjc : j = 0 ∨ j = 1 ∨ j = 2 ∨ j = 3 := by omega
  rcases hgc with rfl | rfl | rfl | rfl <;> rcases hjc with rfl | rfl | rfl | rfl <;> simp [RepV.short, RepV.lv, okL] <;> omega
theorem rep_forth {lc : Int} {l : List Int} (hb : Byts l) (h : repE lc l = 0) : (repV lc l).ok ∧ encLc (repV lc l) = lc ∧ encL (repV lc l) = l := by
  have h0 := num_nonneg hb
  unfold repV
  rw [if_neg (by omega)]
  unfold repE at h
  by_cases h30 : lc = 30
  · rw [if_pos h30] at h ⊢
    have hl := (opE_len h).2
    have hn := num_lt hb
    rw [show l.length = 3 from by omega] at hn
    have hn2 : num l < 16777216 := hn
    refine ⟨lng_ok ⟨h0, hn2⟩, by rw [h30]; rfl, ?_⟩
    have e : encL (RepV.lng (num l)) = be 3 (((num l / 262144 * 64 + num l / 4096 % 64) * 64 + num l / 64 % 64) * 64 + num l % 64) := rfl
    rw [e, show ((num l / 262144 * 64 + num l / 4096 % 64) * 64 + num l / 64 % 64) * 64 + num l % 64 = num l from by omega]
    have := be_num hb
    rwa [show l.length = 3 from by omega] at this
  · rw [if_neg h30] at h ⊢
    obtain ⟨hlc, hl⟩ := opE_len h
    obtain ⟨h1, h2, h3⟩ := one_byte hb (by omega)
    obtain ⟨n, hn⟩ : ∃ n, num l = n := ⟨_, rfl⟩
    rw [hn] at h1 h2 h3 ⊢
    refine ⟨short_ok (by omega) (by omega), by rw [hlc]; rfl, ?_⟩
    have hg : n / 64 = 0 ∨ n / 64 = 1 ∨ n / 64 = 2 ∨ n / 64 = 3 := by omega
    have e : encL (RepV.short (n / 64) (n % 64)) = [64 * (n / 64) + n % 64] := by
      rcases hg with h | h | h | h <;> rw [h] <;> rfl
    rw [e, h3, show 64 * (n / 64) + n % 64 = n from by omega]
theorem pow_back {h : Int} (hh : 0 ≤ h ∧ h ≤ 63) : powE 26 [h] = 0 ∧ powV 26 [h] = h := by
  have e1 : num [h] = h := by simp [num]
  have e2 : powE 26 [h] = 0 := by
    unfold powE
    rw [show opE 26 [h] 26 1 = 0 from by simp [opE], if_neg (by simp), e1, if_neg (by omega)]
  exact ⟨e2, by unfold powV; rw [e2, if_pos rfl, e1]⟩
theorem id_back {lc : Int} {id : Nat} (hi : isId lc) (hh : id / 2 ^ (8 * wid lc).toNat = 0) : idE lc (be (wid lc).toNat (id : Int)) = 0 ∧ idV lc (be (wid lc).toNat (id : Int)) = (id : Int) := by
  have hw : 0 ≤ wid lc := by unfold wid; split <;> omega
  have e1 : idE lc (be (wid lc).toNat (id : Int)) = 0 := by
    unfold idE
    rw [if_pos hi, opE_sz]
    unfold szE
    rw [be_length, if_neg (by omega), if_neg (by omega)]
  refine ⟨e1, ?_⟩
  unfold idV
  rw [e1, if_pos rfl, num_be _ _ (by omega)]
  rw [show (8 * wid lc).toNat = (wid lc).toNat * 8 from by omega] at hh
  have hp : 0 < 2 ^ ((wid lc).toNat * 8) := Nat.pow_pos (by decide)
  have hlt : id < 2 ^ ((wid lc).toNat * 8) := by
    rcases Nat.lt_or_ge id (2 ^ ((wid lc).toNat * 8)) with h | h
    · exact h
    · have := Nat.div_pos h hp
      omega
  have : ((id : Int) % ((2 ^ ((wid lc).toNat * 8) : Nat) : Int)) = ((id % 2 ^ ((wid lc).toNat * 8) : Nat) : Int) := rfl
  rw [this, Nat.mod_eq_of_lt hlt]
theorem id_forth {lc : Int} {l : List Int} (hb : Byts l) (h : idE lc l = 0) : isId lc ∧ ∃ id : Nat, num l = (id : Int) ∧ id < 18446744073709551616 ∧ id / 2 ^ (8 * wid lc).toNat = 0 ∧ be (wid lc).toNat (id : Int) = l := by
  unfold idE at h
  by_cases hi : isId lc
  · rw [if_pos hi, opE_sz] at h
    have hl := szE_len h
    have hw : 0 ≤ wid lc ∧ wid lc ≤ 6 := by unfold wid; split <;> omega
    have h0 := num_nonneg hb
    obtain ⟨id, hid⟩ := Int.eq_ofNat_of_zero_le h0
    have hn := num_lt hb
    have hb2 := be_num hb
    rw [hid] at hn hb2
    have hlt : id < 2 ^ (l.length * 8) := by exact_mod_cast hn
    have hle : 2 ^ (l.length * 8) ≤ 2 ^ 48 := Nat.pow_le_pow_right (by decide) (by omega)
    have h48 : (2 : Nat) ^ 48 = 281474976710656 := rfl
    refine ⟨hi, id, hid, by omega, ?_, ?_⟩
    · rw [show (8 * wid lc).toNat = l.length * 8 from by omega]
      exact Nat.div_eq_of_lt hlt
    · rw [show (wid lc).toNat = l.length from by omega]
      exact hb2
  · rw [if_neg hi] at h
    simp at h
theorem lvl_mono {x y : Int} (h : x ≤ y) : lvl x ≤ lvl y := by
  obtain ⟨h1, h2, h3⟩ := lvl_spec x
  obtain ⟨g1, g2, g3⟩ := lvl_spec y
  rcases Nat.lt_or_ge (lvl y) (lvl x) with hlt | hge
  · have a1 := h2 (lvl y) hlt
    have a2 := g3 (lvl y) (Nat.le_refl _) (by omega)
    omega
  · exact hge
theorem lvl_top (x : Int) : lim 62 < x ↔ lvl x = 63 := by
  obtain ⟨h1, h2, h3⟩ := lvl_spec x
  constructor
  · intro h
    rcases Nat.lt_or_ge (lvl x) 63 with hlt | hge
    · have := h3 62 (by omega) (by omega)
      omega
    · omega
  · intro h
    exact h2 62 (by omega)
theorem lvl_near {x : Int} (h10 : 10 ≤ x) (h : x ≤ lim 62) : lvl x ≤ 62 ∧ x ≤ lim (lvl x) ∧ 12 * lim (lvl x) < 17 * x + 48 := by
  obtain ⟨h1, h2, h3⟩ := lvl_spec x
  have h63 : lvl x ≠ 63 := fun e => by have := (lvl_top x).2 e; omega
  have hle : x ≤ lim (lvl x) := h3 _ (Nat.le_refl _) (by omega)
  refine ⟨by omega, hle, ?_⟩
  have hpos : 1 ≤ lvl x := by
    rcases Nat.eq_zero_or_pos (lvl x) with e | e
    · rw [e] at hle
      have : lim 0 = 0 := rfl
      omega
    · exact e
  obtain ⟨k, hk⟩ : ∃ k, lvl x = k + 1 := ⟨lvl x - 1, by omega⟩
  have h4 := h2 k (by omega)
  rw [hk]
  rcases Nat.eq_zero_or_pos k with e | e
  · subst e
    have : lim (0 + 1) = 10 := rfl
    omega
  · have h0 : 0 ≤ lim k := (lim_bd (by omega)).1
    rw [lim_succ k e]
    omega
/-- what an encoder returns: an element and an error -/
def Enc (e lc : Int) (l : List Int) (v : Value) (w w' : World) : Prop := ∃ B c co, v = .tuple #[.agg #[.int .i64 lc, .slice B l.length c], .int .i64 e] ∧ SX.St w [] w' [SX.Ent.row (.slice B l.length co) 5 1 l.length (ints .u8 l)]
theorem Enc.ok {lc : Int} {l : List Int} {v : Value} {w w' : World} (h : ∃ u, v = .tuple #[u, .int .i64 0] ∧ IsPart lc l u w w') : Enc 0 lc l v w w' := by
  obtain ⟨u, rfl, B, co, rfl, h⟩ := h
  exact ⟨B, _, co, rfl, h⟩
theorem Enc.bad {v : Value} {w w' : World} (h : v = .tuple #[.agg #[.int .i64 0, .slice none 0 0], .int .i64 2] ∧ SX.St w [] w' []) : Enc 2 0 [] v w w' := by
  obtain ⟨rfl, h⟩ := h
  exact ⟨none, 0, 0, rfl, h.nil _ 1⟩
def idOk (lc : Int) (id : Nat) : Prop := isId lc ∧ id / 2 ^ (8 * wid lc).toNat = 0
instance (lc : Int) (id : Nat) : Decidable (idOk lc id) := by unfold idOk isId; infer_instance
theorem encid_en (lc : Int) (id : Nat) (w : World) (hid : id < 18446744073709551616) : Calls Try.prog 50 #[.int .i64 lc, .int .u64 (id : Int)] w (SX.Ret fun v w' => Enc (if idOk lc id then 0 else 2) (if idOk lc id then lc else 0) (if idOk lc id then be (wid lc).toNat (id : Int) else []) v w w') := by
  by_cases h : idOk lc id
  · rw [if_pos h, if_pos h, if_pos h]
    refine (encid_ok lc id w hid h.1 h.2).mono ?_
    rintro e w' ⟨v, rfl, hv⟩
    exact ⟨v, rfl, Enc.ok hv⟩
  · rw [if_neg h, if_neg h, if_neg h]
    refine (encid_bad lc id w hid h).mono ?_
    rintro e w' ⟨v, rfl, hv⟩
    exact ⟨v, rfl, Enc.bad hv⟩
end Go.Proofs.Ytjgfooakcljddaa

/- Random access of a handset: what wins. -/
namespace Go.Proofs.Ytjgfooakcljddaa
open Go.RowKit
set_option linter.unusedSimpArgs false
set_option linter.unusedVariables false
--newlaws

theorem start_new {i r n c x s : Int} (h : okT s) : startV (newV i r n c x) s = (⟨i, r, n, c, x, 1, s, s, 0, 0, 0, 0, 0⟩, 0) := by
  have h0 : 0 ≤ s := h.1
  have e : tickV (newV i r n c x) s = ⟨i, r, n, c, x, 0, s, -1, 0, 0, 0, 0, 0⟩ := by
    unfold tickV
    rw [if_neg (by unfold waits newV; simp)]
    unfold newV
    simp only
    rw [show max 0 s = s from by omega]
  unfold startV
  rw [if_pos h, e, if_pos (.inl rfl)]
theorem send_first {i r n c x s d b fr pr at0 rn : Int} (h : okT s) (hd : 0 ≤ d) : sendV ⟨i, r, n, c, x, 1, s, s, fr, pr, at0, b, rn⟩ s d = (⟨i, r, n, c, x, 2, s, s + 3 + n, s + 3, d % 64, at0 + 1, b, rn⟩, d % 64, 0) := by
  have e : tickV ⟨i, r, n, c, x, 1, s, s, fr, pr, at0, b, rn⟩ s = ⟨i, r, n, c, x, 1, s, s, fr, pr, at0, b, rn⟩ := by
    unfold tickV
    rw [if_neg (by unfold waits; simp)]
    simp only
    rw [show max s s = s from by omega]
  unfold sendV
  rw [if_pos ⟨h, hd⟩, e, if_pos rfl, if_neg (by simp)]
theorem failV_st (m : AcV) : (failV m).st = 1 ∨ (failV m).st = 5 := by unfold failV; split <;> simp
theorem useV_fail (m : AcV) : useV (failV m) = 0 := by
  unfold useV
  rcases failV_st m with h | h <;> rw [h] <;> rfl
/-- the answer comes too early or too late -/
theorem answer_miss {i r n c x s d rn wt : Int} (h : okT (s + wt)) (h0 : 0 ≤ s) (hn : 1 ≤ n) (hr : 1 ≤ rn ∧ rn ≤ 65535) (hw : 0 ≤ wt) (hm : wt < 3 ∨ 3 + n ≤ wt) : (answerV ⟨i, r, n, c, x, 2, s, s + 3 + n, s + 3, d % 64, 1, 0, 0⟩ (s + wt) (d % 64) rn 0).2 = (false, 8) ∧ useV (answerV ⟨i, r, n, c, x, 2, s, s + 3 + n, s + 3, d % 64, 1, 0, 0⟩ (s + wt) (d % 64) rn 0).1 = 0 := by
  have hok : okR (d % 64) rn 0 := by unfold okR; omega
  unfold answerV
  rw [if_pos ⟨h, hok⟩]
  by_cases hl : 3 + n ≤ wt
  · have e : tickV ⟨i, r, n, c, x, 2, s, s + 3 + n, s + 3, d % 64, 1, 0, 0⟩ (s + wt) = failV ⟨i, r, n, c, x, 2, max s (s + wt), s + 3 + n, s + 3, d % 64, 1, 0, 0⟩ := by
      unfold tickV
      rw [if_pos (by unfold waits; exact ⟨.inl rfl, by simp only; omega⟩)]
    rw [e]
    have h5 := failV_st ⟨i, r, n, c, x, 2, max s (s + wt), s + 3 + n, s + 3, d % 64, 1, 0, 0⟩
    rw [if_neg (by rcases h5 with h | h <;> rw [h] <;> simp)]
    exact ⟨rfl, useV_fail _⟩
  · have e : tickV ⟨i, r, n, c, x, 2, s, s + 3 + n, s + 3, d % 64, 1, 0, 0⟩ (s + wt) = ⟨i, r, n, c, x, 2, s + wt, s + 3 + n, s + 3, d % 64, 1, 0, 0⟩ := by
      unfold tickV
      rw [if_neg (by unfold waits; simp only; omega)]
      simp only
      rw [show max s (s + wt) = s + wt from by omega]
    rw [e, if_neg (by simp only; omega)]
    exact ⟨rfl, rfl⟩
/-- the answer comes in time -/
theorem answer_hit {i r n c x s d rn wt : Int} (h : okT (s + wt)) (h0 : 0 ≤ s) (hn : 1 ≤ n) (hr : 1 ≤ rn ∧ rn ≤ 65535) (hm : 3 ≤ wt ∧ wt < 3 + n) : answerV ⟨i, r, n, c, x, 2, s, s + 3 + n, s + 3, d % 64, 1, 0, 0⟩ (s + wt) (d % 64) rn 0 = (⟨i, r, n, c, x, 3, s + wt, s + wt + c, s + 3, d % 64, 1, 0, rn⟩, true, 0) := by
  have hok : okR (d % 64) rn 0 := by unfold okR; omega
  unfold answerV
  have e : tickV ⟨i, r, n, c, x, 2, s, s + 3 + n, s + 3, d % 64, 1, 0, 0⟩ (s + wt) = ⟨i, r, n, c, x, 2, s + wt, s + 3 + n, s + 3, d % 64, 1, 0, 0⟩ := by
    unfold tickV
    rw [if_neg (by unfold waits; simp only; omega)]
    simp only
    rw [show max s (s + wt) = s + wt from by omega]
  rw [if_pos ⟨h, hok⟩, e, if_pos ⟨rfl, by simp only; omega⟩, if_pos rfl, if_neg (by omega)]
theorem msg_idE {m : AcV} (hf : m.cfg) : idE (msgC m) (msgL m) = 0 := by
  unfold msgC msgL
  obtain ⟨h1, h2, -⟩ := hf
  split
  · obtain ⟨k, hk⟩ := Int.eq_ofNat_of_zero_le h1.1
    rw [hk]
    exact (id_back (lc := 28) (id := k) (.inr rfl) (by show k / 281474976710656 = 0; omega)).1
  · obtain ⟨k, hk⟩ := Int.eq_ofNat_of_zero_le h2.1
    rw [hk]
    exact (id_back (lc := 27) (id := k) (.inl rfl) (by show k / 65536 = 0; omega)).1
/-- its own message comes back -/
theorem resolve_own {m : AcV} {t : Int} (hf : m.cfg) (h3 : m.st = 3) (ht : okT t) (hl : t < m.due) (hn : m.now ≤ t) : resolveV m t (msgC m) (msgL m) = ({ m with now := t, st := 4, due := -1 }, true, 0) := by
  have e : tickV m t = { m with now := t } := by
    unfold tickV
    rw [if_neg (by unfold waits; omega)]
    rw [show max m.now t = t from by omega]
  unfold resolveV
  rw [if_pos ht, if_pos (msg_idE hf), e, if_pos h3, if_pos ⟨rfl, rfl⟩]
theorem resolve_late {m : AcV} {t lc : Int} {l : List Int} (h3 : m.st = 3) (ht : okT t) (hl : m.due ≤ t) (he : idE lc l = 0) : (resolveV m t lc l).2 = (false, 8) ∧ ((resolveV m t lc l).1.st = 1 ∨ (resolveV m t lc l).1.st = 5) ∧ useV (resolveV m t lc l).1 = 0 := by
  have e : tickV m t = failV { m with now := max m.now t } := by
    unfold tickV
    rw [if_pos (by unfold waits; omega)]
  have h5 := failV_st { m with now := max m.now t }
  unfold resolveV
  rw [if_pos ht, if_pos he, e, if_neg (by rcases h5 with h | h <;> rw [h] <;> simp)]
  exact ⟨rfl, h5, useV_fail _⟩

set_option maxHeartbeats 1000000 in
set_option maxRecDepth 100000 in
theorem accessWins_walk (i r n c x sent draw rnti wt last : Int) (w : World) (hi : 0 ≤ i) :
    Calls Try.prog 3 #[.agg #[.int .u64 i, .int .i64 r, .int .i64 n, .int .i64 c, .int .i64 x], .int .i64 sent, .int .i64 draw, .int .i64 rnti, .int .i64 wt, .int .i64 last] w (SX.Ret fun v w' => v = .bool true ∧ SX.St w [] w' []) := by
  have hs := SX.St.start w
  by_cases hc : (newV i r n c x).cfg
  · by_cases hA : ((0 ≤ sent ∧ sent ≤ 536870912) ∧ 0 ≤ draw) ∧ (1 ≤ rnti ∧ rnti ≤ 65535) ∧ (0 ≤ wt ∧ wt ≤ 100) ∧ 0 ≤ last ∧ last ≤ 100
    · obtain ⟨⟨h1, h2⟩, h3, h4, h5⟩ := hA
      have hc9 := hc
      obtain ⟨f1, f2, f3, f4, f5⟩ := hc9
      simp only [newV] at f1 f2 f3 f4 f5
      have hok := newV_ok hc
      have ht1 : okT sent := by unfold okT; omega
      have ht2 : okT (sent + wt) := by unfold okT; omega
      have ht3 : okT (sent + wt + last) := by unfold okT; omega
      have q1 := start_new (i := i) (r := r) (n := n) (c := c) (x := x) ht1
      have o1 := hok.start sent
      have q2 := send_first (i := i) (r := r) (n := n) (c := c) (x := x) (fr := 0) (pr := 0) (at0 := 0) (b := 0) (rn := 0) ht1 h2
      have e01 : (0 : Int) + 1 = 1 := rfl
      rw [e01] at q2
      rw [q1] at o1
      have o2 := o1.send sent draw
      rw [q2] at o2
      have o3 := o2.answer (sent + wt) (draw % 64) rnti 0
      have c3 := o3.cfg
      by_cases hm : wt < 3 ∨ 3 + n ≤ wt
      · obtain ⟨q3, q4⟩ := answer_miss (i := i) (r := r) (n := n) (c := c) (x := x) (s := sent) (d := draw) (rn := rnti) (wt := wt) ht2 h1.1 f3.1 h3 h4.1 hm
        have q3a := congrArg Prod.fst q3
        have q3b := congrArg Prod.snd q3
        simp only at q3a q3b
        refine Z.enter Try.func3 rfl Try.ntmps3 rfl rfl ?_
        refine Z.seq ?_
        refine Z.region ?_
        refine Z.le rfl trivial ?_
        refine Z.ZO.box rfl rfl (by rfl) rfl rfl hs ?_
        clear hs; intro g6 w6 hs
        refine Z.lb 1 rfl ?_
        refine Z.lnil ?_
        refine Z.only [1, 2, 3, 4, 5, 6] rfl ?_
        refine Z.nthen ?_
        refine Z.seq ?_
        refine Z.region ?_
        refine Z.l rfl rfl (by rfl) (Z.keepS hs) (by first | exact Z.Yd.loadA _ rfl Try.isAgg24 (fun _ => Z.cellsB (by first | ((repeat (first | exact List.mem_cons_self | refine List.mem_cons_of_mem _ ?_ | refine List.mem_append_right _ ?_)); done) | fail)) (by exact Try.sizeOf24) | fail "load 1.0") ?_
        refine Z.le rfl trivial ?_
        refine Z.ZO.call rfl rfl (by rfl) rfl rfl Try.call9 rfl (ac_newT i r n c x _ hi hc) ?_
        rintro v1_1 w1_1 ⟨ga, rfl, hy⟩
        replace hs := hs.call hy
        clear hy
        try simp only [List.cons_append, List.nil_append, List.append_nil] at hs
        replace hs : SX.St w [] _ [SX.Ent.blk ga 64 (newV i r n c x).cells.toArray, _] := hs
        refine Z.lb 5 rfl ?_
        refine Z.lnil ?_
        refine Z.only [1, 2, 3, 4, 5, 6, 13, 14] rfl ?_
        refine Z.nthen ?_
        refine Z.seq ?_
        refine Z.seq ?_
        refine Z.region ?_
        refine Z.lb 3 rfl ?_
        refine Z.yes (s := 31) (b := false) rfl ((by simp)) rfl ?_
        refine Z.lb 2 rfl ?_
        refine Z.yes (s := 31) (b := false) rfl rfl rfl ?_
        refine Z.l rfl rfl (by rfl) (Z.keepS hs) (Z.Yd.pickF rfl rfl) ?_
        refine Z.lb 1 rfl ?_
        refine Z.yes (s := 35) (b := false) rfl ((by simp; omega)) rfl ?_
        refine Z.lb 2 rfl ?_
        refine Z.yes (s := 35) (b := false) rfl rfl rfl ?_
        refine Z.l rfl rfl (by rfl) (Z.keepS hs) (Z.Yd.pickF rfl rfl) ?_
        refine Z.lb 1 rfl ?_
        refine Z.yes (s := 39) (b := false) rfl ((by simp; omega)) rfl ?_
        refine Z.lb 2 rfl ?_
        refine Z.yes (s := 39) (b := false) rfl rfl rfl ?_
        refine Z.l rfl rfl (by rfl) (Z.keepS hs) (Z.Yd.pickF rfl rfl) ?_
        refine Z.lb 1 rfl ?_
        refine Z.yes (s := 43) (b := false) rfl ((by simp; omega)) rfl ?_
        refine Z.lb 2 rfl ?_
        refine Z.yes (s := 43) (b := false) rfl rfl rfl ?_
        refine Z.l rfl rfl (by rfl) (Z.keepS hs) (Z.Yd.pickF rfl rfl) ?_
        refine Z.lb 1 rfl ?_
        refine Z.yes (s := 47) (b := false) rfl ((by simp; omega)) rfl ?_
        refine Z.lb 2 rfl ?_
        refine Z.yes (s := 47) (b := false) rfl rfl rfl ?_
        refine Z.l rfl rfl (by rfl) (Z.keepS hs) (Z.Yd.pickF rfl rfl) ?_
        refine Z.lb 1 rfl ?_
        refine Z.yes (s := 51) (b := false) rfl ((by simp; omega)) rfl ?_
        refine Z.lb 2 rfl ?_
        refine Z.yes (s := 51) (b := false) rfl rfl rfl ?_
        refine Z.l rfl rfl (by rfl) (Z.keepS hs) (Z.Yd.pickF rfl rfl) ?_
        refine Z.lb 1 rfl ?_
        refine Z.yes (s := 55) (b := false) rfl ((by simp; omega)) rfl ?_
        refine Z.lb 2 rfl ?_
        refine Z.yes (s := 55) (b := false) rfl rfl rfl ?_
        refine Z.l rfl rfl (by rfl) (Z.keepS hs) (Z.Yd.pickF rfl rfl) ?_
        refine Z.lb 1 rfl ?_
        refine Z.yes (s := 59) (b := false) rfl ((by simp; omega)) rfl ?_
        refine Z.lb 2 rfl ?_
        refine Z.yes (s := 59) (b := false) rfl rfl rfl ?_
        refine Z.l rfl rfl (by rfl) (Z.keepS hs) (Z.Yd.pickF rfl rfl) ?_
        refine Z.lb 1 rfl ?_
        refine Z.yes (s := 63) (b := false) rfl ((by simp; omega)) rfl ?_
        refine Z.lb 2 rfl ?_
        refine Z.yes (s := 63) (b := false) rfl rfl rfl ?_
        refine Z.l rfl rfl (by rfl) (Z.keepS hs) (Z.Yd.pickF rfl rfl) ?_
        refine Z.lnil ?_
        refine Z.only [1, 2, 3, 4, 5, 6, 13, 66] rfl ?_
        refine Z.nthen ?_
        refine Z.cond rfl (fun h => absurd h (by simp; omega)) (fun hc2 => ?_)
        refine Z.skip ?_
        refine Z.nthen ?_
        refine Z.seq ?_
        refine Z.seq ?_
        refine Z.region ?_
        refine Z.lb 2 rfl ?_
        refine Z.le rfl trivial ?_
        refine Z.ZO.call rfl rfl (by rfl) rfl rfl Try.call11 rfl (ac_start ga _ (newV i r n c x) sent _ (hs.lend (L1 := [_])) hok) ?_
        rintro v4_2 w4_2 ⟨rfl, hz⟩
        replace hs := hs.regain (L1 := [_]) hz
        rw [q1]
        rw [q1] at hs
        refine Z.lb 1 rfl ?_
        refine Z.lnil ?_
        refine Z.only [1, 2, 3, 4, 5, 6, 13, 71] rfl ?_
        refine Z.nthen ?_
        refine Z.cond rfl (fun h => absurd h (by simp)) (fun hc4 => ?_)
        refine Z.skip ?_
        refine Z.nthen ?_
        refine Z.seq ?_
        refine Z.region ?_
        refine Z.lb 3 rfl ?_
        refine Z.le rfl trivial ?_
        refine Z.ZO.call rfl rfl (by rfl) rfl rfl Try.call12 rfl (ac_send ga _ _ sent draw _ (hs.lend (L1 := [_])) o1) ?_
        rintro v6_3 w6_3 ⟨rfl, hz⟩
        replace hs := hs.regain (L1 := [_]) hz
        rw [show ((⟨i, r, n, c, x, 1, sent, sent, 0, 0, 0, 0, 0⟩ : AcV), (0 : Int)).1 = ⟨i, r, n, c, x, 1, sent, sent, 0, 0, 0, 0, 0⟩ from rfl, q2] at hs
        rw [q2]
        refine Z.lb 5 rfl ?_
        refine Z.lnil ?_
        refine Z.only [1, 2, 3, 4, 5, 6, 13, 15, 16] rfl ?_
        refine Z.nthen ?_
        refine Z.seq ?_
        refine Z.seq ?_
        refine Z.region ?_
        refine Z.lb 3 rfl ?_
        refine Z.yes (s := 81) (b := false) rfl ((by simp)) rfl ?_
        refine Z.lb 2 rfl ?_
        refine Z.l rfl rfl (by rfl) (Z.keepS hs) (Z.Yd.rem rfl rfl (by intro hG; first | decide | omega) (by intro hG; first | exact Z.tmodn (by omega) | exact rfl)) ?_
        refine Z.lb 1 rfl ?_
        refine Z.yes (s := 81) (b := false) rfl rfl rfl ?_
        refine Z.l rfl rfl (by rfl) (Z.keepS hs) (Z.Yd.pickF rfl rfl) ?_
        refine Z.lnil ?_
        refine Z.only [1, 3, 4, 5, 6, 13, 15, 86] rfl ?_
        refine Z.nthen ?_
        refine Z.cond rfl (fun h => absurd h (by simp)) (fun hc7 => ?_)
        refine Z.skip ?_
        refine Z.nthen ?_
        refine Z.seq ?_
        refine Z.region ?_
        refine Z.lb 3 rfl ?_
        refine Z.l rfl rfl (by rfl) (Z.keepS hs) (Z.Yd.add rfl rfl (fun hG => Z.wi64 (by first | omega | (have hG' := Z.gh rfl hG; simp at hG'; omega)))) ?_
        refine Z.lb 2 rfl ?_
        refine Z.l rfl rfl (by rfl) (Z.keepS hs) (Z.Yd.buildL [(0, 1), (1, 1), (2, 1)] [.int .i64 0, .int .i64 0, .int .i64 0] rfl rfl (by intro w; kernel_rfl)) ?_
        refine Z.le rfl trivial ?_
        refine Z.ZO.call rfl rfl (by rfl) rfl rfl Try.call13 rfl (ac_answer ga _ _ (sent + wt) (draw % 64) rnti 0 _ (hs.lend (L1 := [_])) o2) ?_
        rintro v9_7 w9_7 ⟨rfl, hz⟩
        replace hs := hs.regain (L1 := [_]) hz
        simp only [List.cons_append, List.nil_append] at hs
        rw [q3a, q3b]
        refine Z.lb 5 rfl ?_
        refine Z.lnil ?_
        refine Z.only [1, 3, 4, 5, 6, 13, 17, 18] rfl ?_
        refine Z.nthen ?_
        refine Z.seq ?_
        refine Z.seq ?_
        refine Z.region ?_
        refine Z.lb 3 rfl ?_
        refine Z.split (s := 100) rfl (fun hsp100 => ?_) (fun hsp100 => ?_)
        · first
            | (exfalso; simp at hsp100 <;> omega)
            | (
              refine Z.yes (s := 100) (b := true) rfl hsp100 rfl ?_
              (try simp at hsp100)
              refine Z.ls rfl rfl rfl (by rfl) ?_
              refine Z.ls rfl rfl rfl (by rfl) ?_
              refine Z.ls rfl rfl rfl (by rfl) ?_
              refine Z.ls rfl rfl rfl (by rfl) ?_
              refine Z.ls rfl rfl rfl (by rfl) ?_
              refine Z.l rfl rfl (by rfl) (Z.keepS hs) (Z.Yd.pickT rfl rfl) ?_
              refine Z.lnil ?_
              refine Z.only [1, 3, 4, 5, 6, 13, 17, 18, 106] rfl ?_
              refine Z.nthen ?_
              refine Z.cond rfl (fun hc10 => ?_) (fun h => absurd h (by first | (simp; done) | (simp; omega)))
              refine Z.seq ?_
              refine Z.region ?_
              refine Z.lb 7 rfl ?_
              refine Z.yes (s := 113) (b := true) rfl ((by simp)) rfl ?_
              refine Z.lb 1 rfl ?_
              refine Z.yes (s := 113) (b := true) rfl rfl rfl ?_
              refine Z.le rfl (by exact ⟨rfl, trivial⟩) ?_
              refine Z.ZO.call rfl rfl (by rfl) rfl rfl Try.call14 rfl (ac_RNTI ga _ _ (hs.celOf (by first | ((repeat (first | exact List.mem_cons_self | refine List.mem_cons_of_mem _ ?_ | refine List.mem_append_right _ ?_)); done) | fail)) c3) ?_
              rintro v11_8 w11_8 ⟨rfl, hy⟩
              replace hs := hs.call hy
              clear hy
              try simp only [List.cons_append, List.nil_append, List.append_nil] at hs
              rw [q4]
              refine Z.lb 1 rfl ?_
              refine Z.yes (s := 113) (b := true) rfl rfl rfl ?_
              refine Z.l rfl rfl (by rfl) (Z.keepS hs) (Z.Yd.pickT rfl rfl) ?_
              refine Z.lb 1 rfl ?_
              refine Z.yes (s := 118) (b := true) rfl ((by simp)) rfl ?_
              refine Z.le rfl (by exact ⟨rfl, trivial⟩) ?_
              refine Z.ZO.call rfl rfl (by rfl) rfl rfl Try.call10 rfl (ac_known _) ?_
              rintro v11_12 w11_12 ⟨rfl, hy⟩
              replace hs := hs.call hy
              clear hy
              try simp only [List.cons_append, List.nil_append, List.append_nil] at hs
              refine Z.l rfl rfl (by rfl) (Z.keepS hs) (Z.Yd.pickT rfl rfl) ?_
              refine Z.lb 1 rfl ?_
              refine Z.lnil ?_
              refine Z.only [12] rfl ?_
              refine Z.nthen ?_
              refine Z.ret ?_
              repeat (first | refine Z.rthen ?_ | refine Z.rblock ?_ | refine Z.rscope ?_)
              -- ret#0
              refine Z.out1 (by exact ⟨rfl, trivial⟩) ?_
              first | exact ⟨_, rfl, rfl, hs⟩ | exact ⟨_, rfl, rfl, hs.sub (List.nil_sublist _)⟩
              )
        · first
            | (exfalso; simp at hsp100 <;> omega)
            | (
              refine Z.yes (s := 100) (b := false) rfl hsp100 rfl ?_
              (try simp at hsp100)
              refine Z.lb 1 rfl ?_
              refine Z.l rfl rfl (by rfl) (Z.keepS hs) (Z.Yd.fieldA (m := 2) rfl (by kernel_rfl)) ?_
              refine Z.l rfl rfl (by rfl) (Z.keepS hs) (by first | exact Z.Yd.load rfl Try.isAgg3 (fun _ => Z.cellB (by first | ((repeat (first | exact List.mem_cons_self | refine List.mem_cons_of_mem _ ?_ | refine List.mem_append_right _ ?_)); done) | fail) rfl) | exact Z.Yd.load rfl Try.isAgg3 (fun _ => Z.cellO (by assumption) (by simp) (by assumption)) | fail "load 10.5") ?_
              refine Z.l rfl rfl (by rfl) (Z.keepS hs) (Z.Yd.add rfl rfl (fun hG => Z.wi64 (by first | omega | (have hG' := Z.gh rfl hG; simp at hG'; omega)))) ?_
              refine Z.lb 1 rfl ?_
              refine Z.yes (s := 100) (b := false) rfl rfl rfl ?_
              refine Z.l rfl rfl (by rfl) (Z.keepS hs) (Z.Yd.pickF rfl rfl) ?_
              refine Z.lnil ?_
              refine Z.only [1, 3, 4, 5, 6, 13, 17, 18, 106] rfl ?_
              refine Z.nthen ?_
              refine Z.cond rfl (fun hc10 => ?_) (fun h => absurd h (by first | (simp; done) | (simp; omega)))
              refine Z.seq ?_
              refine Z.region ?_
              refine Z.lb 7 rfl ?_
              refine Z.yes (s := 113) (b := true) rfl ((by simp)) rfl ?_
              refine Z.lb 1 rfl ?_
              refine Z.yes (s := 113) (b := true) rfl rfl rfl ?_
              refine Z.le rfl (by exact ⟨rfl, trivial⟩) ?_
              refine Z.ZO.call rfl rfl (by rfl) rfl rfl Try.call14 rfl (ac_RNTI ga _ _ (hs.celOf (by first | ((repeat (first | exact List.mem_cons_self | refine List.mem_cons_of_mem _ ?_ | refine List.mem_append_right _ ?_)); done) | fail)) c3) ?_
              rintro v11_8 w11_8 ⟨rfl, hy⟩
              replace hs := hs.call hy
              clear hy
              try simp only [List.cons_append, List.nil_append, List.append_nil] at hs
              rw [q4]
              refine Z.lb 1 rfl ?_
              refine Z.yes (s := 113) (b := true) rfl rfl rfl ?_
              refine Z.l rfl rfl (by rfl) (Z.keepS hs) (Z.Yd.pickT rfl rfl) ?_
              refine Z.lb 1 rfl ?_
              refine Z.yes (s := 118) (b := true) rfl ((by simp)) rfl ?_
              refine Z.le rfl (by exact ⟨rfl, trivial⟩) ?_
              refine Z.ZO.call rfl rfl (by rfl) rfl rfl Try.call10 rfl (ac_known _) ?_
              rintro v11_12 w11_12 ⟨rfl, hy⟩
              replace hs := hs.call hy
              clear hy
              try simp only [List.cons_append, List.nil_append, List.append_nil] at hs
              refine Z.l rfl rfl (by rfl) (Z.keepS hs) (Z.Yd.pickT rfl rfl) ?_
              refine Z.lb 1 rfl ?_
              refine Z.lnil ?_
              refine Z.only [12] rfl ?_
              refine Z.nthen ?_
              refine Z.ret ?_
              repeat (first | refine Z.rthen ?_ | refine Z.rblock ?_ | refine Z.rscope ?_)
              -- ret#1
              refine Z.out1 (by exact ⟨rfl, trivial⟩) ?_
              first | exact ⟨_, rfl, rfl, hs⟩ | exact ⟨_, rfl, rfl, hs.sub (List.nil_sublist _)⟩
              )
      · have hm2 : 3 ≤ wt ∧ wt < 3 + n := by omega
        have q3 := answer_hit (i := i) (r := r) (n := n) (c := c) (x := x) (s := sent) (d := draw) (rn := rnti) (wt := wt) ht2 h1.1 f3.1 h3 hm2
        have q3a := congrArg (fun z => z.2.1) q3
        have q3b := congrArg (fun z => z.2.2) q3
        simp only at q3a q3b
        rw [q3] at o3 c3
        have hml := msgL_len ⟨i, r, n, c, x, 3, sent + wt, sent + wt + c, sent + 3, draw % 64, 1, 0, rnti⟩
        have hmb := msgL_by ⟨i, r, n, c, x, 3, sent + wt, sent + wt + c, sent + 3, draw % 64, 1, 0, rnti⟩
        obtain ⟨m3, hm3⟩ : ∃ m3 : AcV, m3 = ⟨i, r, n, c, x, 3, sent + wt, sent + wt + c, sent + 3, draw % 64, 1, 0, rnti⟩ := ⟨_, rfl⟩
        have o4 := o3.resolve (sent + wt + last) (msgC m3) (msgL m3)
        by_cases hlate : c ≤ last
        · obtain ⟨q5, q6, q7⟩ := resolve_late (m := m3) (t := sent + wt + last) (lc := msgC m3) (l := msgL m3) (by rw [hm3]) ht3 (by rw [hm3]; simp only; omega) (msg_idE (by rw [hm3]; exact c3))
          have q5a := congrArg Prod.fst q5
          have q5b := congrArg Prod.snd q5
          simp only at q5a q5b
          rw [← hm3] at q3 o3 c3 hml hmb o4
          refine Z.enter Try.func3 rfl Try.ntmps3 rfl rfl ?_
          refine Z.seq ?_
          refine Z.region ?_
          refine Z.le rfl trivial ?_
          refine Z.ZO.box rfl rfl (by rfl) rfl rfl hs ?_
          clear hs; intro g6 w6 hs
          refine Z.lb 1 rfl ?_
          refine Z.lnil ?_
          refine Z.only [1, 2, 3, 4, 5, 6] rfl ?_
          refine Z.nthen ?_
          refine Z.seq ?_
          refine Z.region ?_
          refine Z.l rfl rfl (by rfl) (Z.keepS hs) (by first | exact Z.Yd.loadA _ rfl Try.isAgg24 (fun _ => Z.cellsB (by first | ((repeat (first | exact List.mem_cons_self | refine List.mem_cons_of_mem _ ?_ | refine List.mem_append_right _ ?_)); done) | fail)) (by exact Try.sizeOf24) | fail "load 1.0") ?_
          refine Z.le rfl trivial ?_
          refine Z.ZO.call rfl rfl (by rfl) rfl rfl Try.call9 rfl (ac_newT i r n c x _ hi hc) ?_
          rintro v1_1 w1_1 ⟨ga, rfl, hy⟩
          replace hs := hs.call hy
          clear hy
          try simp only [List.cons_append, List.nil_append, List.append_nil] at hs
          replace hs : SX.St w [] _ [SX.Ent.blk ga 64 (newV i r n c x).cells.toArray, _] := hs
          refine Z.lb 5 rfl ?_
          refine Z.lnil ?_
          refine Z.only [1, 2, 3, 4, 5, 6, 13, 14] rfl ?_
          refine Z.nthen ?_
          refine Z.seq ?_
          refine Z.seq ?_
          refine Z.region ?_
          refine Z.lb 3 rfl ?_
          refine Z.yes (s := 31) (b := false) rfl ((by simp)) rfl ?_
          refine Z.lb 2 rfl ?_
          refine Z.yes (s := 31) (b := false) rfl rfl rfl ?_
          refine Z.l rfl rfl (by rfl) (Z.keepS hs) (Z.Yd.pickF rfl rfl) ?_
          refine Z.lb 1 rfl ?_
          refine Z.yes (s := 35) (b := false) rfl ((by simp; omega)) rfl ?_
          refine Z.lb 2 rfl ?_
          refine Z.yes (s := 35) (b := false) rfl rfl rfl ?_
          refine Z.l rfl rfl (by rfl) (Z.keepS hs) (Z.Yd.pickF rfl rfl) ?_
          refine Z.lb 1 rfl ?_
          refine Z.yes (s := 39) (b := false) rfl ((by simp; omega)) rfl ?_
          refine Z.lb 2 rfl ?_
          refine Z.yes (s := 39) (b := false) rfl rfl rfl ?_
          refine Z.l rfl rfl (by rfl) (Z.keepS hs) (Z.Yd.pickF rfl rfl) ?_
          refine Z.lb 1 rfl ?_
          refine Z.yes (s := 43) (b := false) rfl ((by simp; omega)) rfl ?_
          refine Z.lb 2 rfl ?_
          refine Z.yes (s := 43) (b := false) rfl rfl rfl ?_
          refine Z.l rfl rfl (by rfl) (Z.keepS hs) (Z.Yd.pickF rfl rfl) ?_
          refine Z.lb 1 rfl ?_
          refine Z.yes (s := 47) (b := false) rfl ((by simp; omega)) rfl ?_
          refine Z.lb 2 rfl ?_
          refine Z.yes (s := 47) (b := false) rfl rfl rfl ?_
          refine Z.l rfl rfl (by rfl) (Z.keepS hs) (Z.Yd.pickF rfl rfl) ?_
          refine Z.lb 1 rfl ?_
          refine Z.yes (s := 51) (b := false) rfl ((by simp; omega)) rfl ?_
          refine Z.lb 2 rfl ?_
          refine Z.yes (s := 51) (b := false) rfl rfl rfl ?_
          refine Z.l rfl rfl (by rfl) (Z.keepS hs) (Z.Yd.pickF rfl rfl) ?_
          refine Z.lb 1 rfl ?_
          refine Z.yes (s := 55) (b := false) rfl ((by simp; omega)) rfl ?_
          refine Z.lb 2 rfl ?_
          refine Z.yes (s := 55) (b := false) rfl rfl rfl ?_
          refine Z.l rfl rfl (by rfl) (Z.keepS hs) (Z.Yd.pickF rfl rfl) ?_
          refine Z.lb 1 rfl ?_
          refine Z.yes (s := 59) (b := false) rfl ((by simp; omega)) rfl ?_
          refine Z.lb 2 rfl ?_
          refine Z.yes (s := 59) (b := false) rfl rfl rfl ?_
          refine Z.l rfl rfl (by rfl) (Z.keepS hs) (Z.Yd.pickF rfl rfl) ?_
          refine Z.lb 1 rfl ?_
          refine Z.yes (s := 63) (b := false) rfl ((by simp; omega)) rfl ?_
          refine Z.lb 2 rfl ?_
          refine Z.yes (s := 63) (b := false) rfl rfl rfl ?_
          refine Z.l rfl rfl (by rfl) (Z.keepS hs) (Z.Yd.pickF rfl rfl) ?_
          refine Z.lnil ?_
          refine Z.only [1, 2, 3, 4, 5, 6, 13, 66] rfl ?_
          refine Z.nthen ?_
          refine Z.cond rfl (fun h => absurd h (by simp; omega)) (fun hc2 => ?_)
          refine Z.skip ?_
          refine Z.nthen ?_
          refine Z.seq ?_
          refine Z.seq ?_
          refine Z.region ?_
          refine Z.lb 2 rfl ?_
          refine Z.le rfl trivial ?_
          refine Z.ZO.call rfl rfl (by rfl) rfl rfl Try.call11 rfl (ac_start ga _ (newV i r n c x) sent _ (hs.lend (L1 := [_])) hok) ?_
          rintro v4_2 w4_2 ⟨rfl, hz⟩
          replace hs := hs.regain (L1 := [_]) hz
          rw [q1]
          rw [q1] at hs
          refine Z.lb 1 rfl ?_
          refine Z.lnil ?_
          refine Z.only [1, 2, 3, 4, 5, 6, 13, 71] rfl ?_
          refine Z.nthen ?_
          refine Z.cond rfl (fun h => absurd h (by simp)) (fun hc4 => ?_)
          refine Z.skip ?_
          refine Z.nthen ?_
          refine Z.seq ?_
          refine Z.region ?_
          refine Z.lb 3 rfl ?_
          refine Z.le rfl trivial ?_
          refine Z.ZO.call rfl rfl (by rfl) rfl rfl Try.call12 rfl (ac_send ga _ _ sent draw _ (hs.lend (L1 := [_])) o1) ?_
          rintro v6_3 w6_3 ⟨rfl, hz⟩
          replace hs := hs.regain (L1 := [_]) hz
          rw [show ((⟨i, r, n, c, x, 1, sent, sent, 0, 0, 0, 0, 0⟩ : AcV), (0 : Int)).1 = ⟨i, r, n, c, x, 1, sent, sent, 0, 0, 0, 0, 0⟩ from rfl, q2] at hs
          rw [q2]
          refine Z.lb 5 rfl ?_
          refine Z.lnil ?_
          refine Z.only [1, 2, 3, 4, 5, 6, 13, 15, 16] rfl ?_
          refine Z.nthen ?_
          refine Z.seq ?_
          refine Z.seq ?_
          refine Z.region ?_
          refine Z.lb 3 rfl ?_
          refine Z.yes (s := 81) (b := false) rfl ((by simp)) rfl ?_
          refine Z.lb 2 rfl ?_
          refine Z.l rfl rfl (by rfl) (Z.keepS hs) (Z.Yd.rem rfl rfl (by intro hG; first | decide | omega) (by intro hG; first | exact Z.tmodn (by omega) | exact rfl)) ?_
          refine Z.lb 1 rfl ?_
          refine Z.yes (s := 81) (b := false) rfl rfl rfl ?_
          refine Z.l rfl rfl (by rfl) (Z.keepS hs) (Z.Yd.pickF rfl rfl) ?_
          refine Z.lnil ?_
          refine Z.only [1, 3, 4, 5, 6, 13, 15, 86] rfl ?_
          refine Z.nthen ?_
          refine Z.cond rfl (fun h => absurd h (by simp)) (fun hc7 => ?_)
          refine Z.skip ?_
          refine Z.nthen ?_
          refine Z.seq ?_
          refine Z.region ?_
          refine Z.lb 3 rfl ?_
          refine Z.l rfl rfl (by rfl) (Z.keepS hs) (Z.Yd.add rfl rfl (fun hG => Z.wi64 (by first | omega | (have hG' := Z.gh rfl hG; simp at hG'; omega)))) ?_
          refine Z.lb 2 rfl ?_
          refine Z.l rfl rfl (by rfl) (Z.keepS hs) (Z.Yd.buildL [(0, 1), (1, 1), (2, 1)] [.int .i64 0, .int .i64 0, .int .i64 0] rfl rfl (by intro w; kernel_rfl)) ?_
          refine Z.le rfl trivial ?_
          refine Z.ZO.call rfl rfl (by rfl) rfl rfl Try.call13 rfl (ac_answer ga _ _ (sent + wt) (draw % 64) rnti 0 _ (hs.lend (L1 := [_])) o2) ?_
          rintro v9_7 w9_7 ⟨rfl, hz⟩
          replace hs := hs.regain (L1 := [_]) hz
          simp only [List.cons_append, List.nil_append] at hs
          rw [q3a, q3b]
          refine Z.lb 5 rfl ?_
          refine Z.lnil ?_
          refine Z.only [1, 3, 4, 5, 6, 13, 17, 18] rfl ?_
          refine Z.nthen ?_
          refine Z.seq ?_
          refine Z.seq ?_
          refine Z.region ?_
          refine Z.lb 3 rfl ?_
          refine Z.split (s := 100) rfl (fun hsp100 => ?_) (fun hsp100 => ?_)
          · first
              | (exfalso; simp at hsp100 <;> omega)
              | (
                refine Z.yes (s := 100) (b := true) rfl hsp100 rfl ?_
                (try simp at hsp100)
                refine Z.ls rfl rfl rfl (by rfl) ?_
                refine Z.ls rfl rfl rfl (by rfl) ?_
                refine Z.ls rfl rfl rfl (by rfl) ?_
                refine Z.ls rfl rfl rfl (by rfl) ?_
                refine Z.ls rfl rfl rfl (by rfl) ?_
                refine Z.l rfl rfl (by rfl) (Z.keepS hs) (Z.Yd.pickT rfl rfl) ?_
                refine Z.lnil ?_
                refine Z.only [1, 3, 4, 5, 6, 13, 17, 18, 106] rfl ?_
                refine Z.nthen ?_
                refine Z.cond rfl (fun h => absurd h (by simp; omega)) (fun hc10 => ?_)
                refine Z.skip ?_
                refine Z.nthen ?_
                refine Z.seq ?_
                refine Z.region ?_
                rw [q3] at hs
                refine Z.l rfl rfl (by rfl) (Z.keepS hs) (Z.Yd.pure rfl) ?_
                refine Z.le rfl trivial ?_
                refine Z.ZO.call rfl rfl (by rfl) rfl rfl Try.call15 rfl (ac_Message3 ga m3 _ (hs.celOf (cs := m3.cells) (by first | ((repeat (first | exact List.mem_cons_self | refine List.mem_cons_of_mem _ ?_ | refine List.mem_append_right _ ?_)); done) | fail)) c3 (by rw [hm3])) ?_
                rintro v12_1 w12_1 ⟨u, rfl, Bm, cm, com, rfl, hy⟩
                replace hs := hs.call hy
                clear hy
                try simp only [List.cons_append, List.nil_append, List.append_nil] at hs
                refine Z.lb 3 rfl ?_
                refine Z.le rfl trivial ?_
                refine Z.ZO.alloc rfl rfl (by rfl) Try.zeroValue40 rfl hs ?_
                clear hs; intro g19 w19 hs
                refine Z.le rfl trivial ?_
                first | refine Z.ZO.storeA rfl rfl hs rfl rfl (by kernel_rfl) (by first | (simp [Value.oneCell']; done) | (refine Z.all_one ?_; assumption)) (by first | exact SX.at0 | exact SX.at1 | exact SX.at2 | exact SX.at3 | exact SX.at4 | exact SX.at5 | exact Z.at6 | exact Z.at7 | exact Z.at8 | exact Z.at9 | exact Z.at10 | exact Z.at11 | exact Z.at12) (by rfl) ?_ | refine Z.ZO.storeP rfl rfl hs rfl rfl (by kernel_rfl) (by first | (simp [Value.oneCell']; done) | (refine Z.all_one ?_; assumption)) (by first | exact SX.at0 | exact SX.at1 | exact SX.at2 | exact SX.at3 | exact SX.at4 | exact SX.at5 | exact Z.at6 | exact Z.at7 | exact Z.at8 | exact Z.at9 | exact Z.at10 | exact Z.at11 | exact Z.at12) (by first | decide | (simp; done) | (simp; omega)) ?_ | refine Z.ZO.storePR rfl rfl hs rfl rfl (by kernel_rfl) (by first | (simp [Value.oneCell']; done) | (refine Z.all_one ?_; assumption)) (by first | exact SX.at0 | exact SX.at1 | exact SX.at2 | exact SX.at3 | exact SX.at4 | exact SX.at5 | exact Z.at6 | exact Z.at7 | exact Z.at8 | exact Z.at9 | exact Z.at10 | exact Z.at11 | exact Z.at12) (by first | decide | (simp; done) | (simp; omega)) ?_
                clear hs; intro ws hs
                simp only [Nat.zero_add, Nat.add_zero, Nat.reduceAdd, Int.reduceToNat, Nat.reduceMul, List.set_cons_zero, List.set_cons_succ, List.setIfInBounds_toArray] at hs
                try simp only [Z.putL, Nat.zero_add] at hs
                refine Z.lb 1 rfl ?_
                refine Z.lnil ?_
                refine Z.only [1, 3, 4, 5, 6, 13, 17, 18, 19, 20] rfl ?_
                refine Z.nthen ?_
                refine Z.seq ?_
                refine Z.region ?_
                refine Z.lb 3 rfl ?_
                refine Z.l rfl rfl (by rfl) (Z.keepS hs) (Z.Yd.add rfl rfl (fun hG => Z.wi64 (by first | omega | (have hG' := Z.gh rfl hG; simp at hG'; omega)))) ?_
                refine Z.lb 1 rfl ?_
                refine Z.l rfl rfl (by rfl) (Z.keepS hs) (Z.Yd.add rfl rfl (fun hG => Z.wi64 (by first | omega | (have hG' := Z.gh rfl hG; simp at hG'; omega)))) ?_
                refine Z.l rfl rfl (by rfl) (Z.keepS hs) (by first | exact Z.Yd.loadA _ rfl Try.isAgg40 (fun _ => Z.cellsB (by first | ((repeat (first | exact List.mem_cons_self | refine List.mem_cons_of_mem _ ?_ | refine List.mem_append_right _ ?_)); done) | fail)) (by exact Try.sizeOf40) | fail "load 13.6") ?_
                replace hs : SX.St w [] _ ([SX.Ent.blk ga 64 m3.cells.toArray] ++ [_, _, _]) := hs.sel [2, 1, 0, 3] (by decide)
                refine Z.le rfl trivial ?_
                refine Z.ZO.call rfl rfl (by rfl) rfl rfl Try.call16 rfl (ac_resolve ga _ m3 (sent + wt + last) (msgC m3) Bm (msgL m3).length cm (msgL m3) _ hs.lend o3 (Z.row_lentv hs (j := 0) rfl) rfl (by omega) hmb) ?_
                rintro v13_7 w13_7 ⟨rfl, hz⟩
                replace hs := hs.regain hz
                simp only [List.cons_append, List.nil_append] at hs
                rw [q5a, q5b]
                refine Z.lb 5 rfl ?_
                refine Z.lnil ?_
                refine Z.only [3, 5, 6, 13, 17, 18, 20, 21, 22] rfl ?_
                refine Z.nthen ?_
                refine Z.seq ?_
                refine Z.seq ?_
                refine Z.region ?_
                refine Z.lb 3 rfl ?_
                refine Z.yes (s := 139) (b := false) rfl ((by simp)) rfl ?_
                refine Z.lb 2 rfl ?_
                refine Z.yes (s := 139) (b := false) rfl rfl rfl ?_
                refine Z.l rfl rfl (by rfl) (Z.keepS hs) (Z.Yd.pickF rfl rfl) ?_
                refine Z.lb 1 rfl ?_
                refine Z.yes (s := 143) (b := false) rfl ((by simp)) rfl ?_
                refine Z.lb 2 rfl ?_
                refine Z.yes (s := 143) (b := false) rfl rfl rfl ?_
                refine Z.l rfl rfl (by rfl) (Z.keepS hs) (Z.Yd.pickF rfl rfl) ?_
                refine Z.lnil ?_
                refine Z.only [3, 5, 6, 13, 21, 22, 146] rfl ?_
                refine Z.nthen ?_
                refine Z.cond rfl (fun h => absurd h (by simp)) (fun hc14 => ?_)
                refine Z.skip ?_
                refine Z.nthen ?_
                refine Z.seq ?_
                refine Z.seq ?_
                refine Z.region ?_
                refine Z.lb 1 rfl ?_
                refine Z.l rfl rfl (by rfl) (Z.keepS hs) (Z.Yd.fieldA (m := 3) rfl (by kernel_rfl)) ?_
                refine Z.l rfl rfl (by rfl) (Z.keepS hs) (by first | exact Z.Yd.load rfl Try.isAgg3 (fun _ => Z.cellB (by first | ((repeat (first | exact List.mem_cons_self | refine List.mem_cons_of_mem _ ?_ | refine List.mem_append_right _ ?_)); done) | fail) rfl) | exact Z.Yd.load rfl Try.isAgg3 (fun _ => Z.cellO (by assumption) (by simp) (by assumption)) | fail "load 16.2") ?_
                refine Z.lb 1 rfl ?_
                refine Z.lnil ?_
                refine Z.only [3, 6, 13, 21, 22, 150] rfl ?_
                refine Z.nthen ?_
                refine Z.cond rfl (fun hc16 => ?_) (fun h => absurd h (by simp; omega))
                refine Z.seq ?_
                refine Z.region ?_
                refine Z.lb 7 rfl ?_
                refine Z.yes (s := 157) (b := true) rfl ((by simp)) rfl ?_
                refine Z.lb 1 rfl ?_
                refine Z.yes (s := 157) (b := true) rfl rfl rfl ?_
                refine Z.le rfl (by exact ⟨rfl, trivial⟩) ?_
                refine Z.ZO.call rfl rfl (by rfl) rfl rfl Try.call17 rfl (ac_State ga _ _ (hs.celOf (by first | ((repeat (first | exact List.mem_cons_self | refine List.mem_cons_of_mem _ ?_ | refine List.mem_append_right _ ?_)); done) | fail)) o4.cfg) ?_
                rintro v17_8 w17_8 ⟨rfl, hy⟩
                replace hs := hs.call hy
                clear hy
                try simp only [List.cons_append, List.nil_append, List.append_nil] at hs
                refine Z.lb 1 rfl ?_
                refine Z.yes (s := 157) (b := true) rfl rfl rfl ?_
                refine Z.l rfl rfl (by rfl) (Z.keepS hs) (Z.Yd.pickT rfl rfl) ?_
                refine Z.lb 1 rfl ?_
                refine Z.yes (s := 162) (b := true) rfl ((by rcases q6 with h | h <;> rw [h] <;> simp)) rfl ?_
                refine Z.lb 1 rfl ?_
                refine Z.yes (s := 162) (b := true) rfl rfl rfl ?_
                refine Z.le rfl (by exact ⟨rfl, trivial⟩) ?_
                refine Z.ZO.call rfl rfl (by rfl) rfl rfl Try.call14 rfl (ac_RNTI ga _ _ (hs.celOf (by first | ((repeat (first | exact List.mem_cons_self | refine List.mem_cons_of_mem _ ?_ | refine List.mem_append_right _ ?_)); done) | fail)) o4.cfg) ?_
                rintro v17_13 w17_13 ⟨rfl, hy⟩
                replace hs := hs.call hy
                clear hy
                try simp only [List.cons_append, List.nil_append, List.append_nil] at hs
                rw [q7]
                refine Z.lb 1 rfl ?_
                refine Z.yes (s := 162) (b := true) rfl rfl rfl ?_
                refine Z.l rfl rfl (by rfl) (Z.keepS hs) (Z.Yd.pickT rfl rfl) ?_
                refine Z.lb 1 rfl ?_
                refine Z.yes (s := 167) (b := true) rfl ((by first | (simp; done) | (simp; rcases q6 with h | h <;> rw [h] <;> simp))) rfl ?_
                refine Z.le rfl (by exact ⟨rfl, trivial⟩) ?_
                refine Z.ZO.call rfl rfl (by rfl) rfl rfl Try.call10 rfl (ac_known _) ?_
                rintro v17_17 w17_17 ⟨rfl, hy⟩
                replace hs := hs.call hy
                clear hy
                try simp only [List.cons_append, List.nil_append, List.append_nil] at hs
                refine Z.l rfl rfl (by rfl) (Z.keepS hs) (Z.Yd.pickT rfl rfl) ?_
                refine Z.lb 1 rfl ?_
                refine Z.lnil ?_
                refine Z.only [12] rfl ?_
                refine Z.nthen ?_
                refine Z.ret ?_
                repeat (first | refine Z.rthen ?_ | refine Z.rblock ?_ | refine Z.rscope ?_)
                -- ret#0
                refine Z.out1 (by exact ⟨rfl, trivial⟩) ?_
                first | exact ⟨_, rfl, rfl, hs⟩ | exact ⟨_, rfl, rfl, hs.sub (List.nil_sublist _)⟩
                )
          · first
              | (exfalso; simp at hsp100 <;> omega)
              | (
                refine Z.yes (s := 100) (b := false) rfl hsp100 rfl ?_
                (try simp at hsp100)
                refine Z.lb 1 rfl ?_
                refine Z.l rfl rfl (by rfl) (Z.keepS hs) (Z.Yd.fieldA (m := 2) rfl (by kernel_rfl)) ?_
                refine Z.l rfl rfl (by rfl) (Z.keepS hs) (by first | exact Z.Yd.load rfl Try.isAgg3 (fun _ => Z.cellB (by first | ((repeat (first | exact List.mem_cons_self | refine List.mem_cons_of_mem _ ?_ | refine List.mem_append_right _ ?_)); done) | fail) rfl) | exact Z.Yd.load rfl Try.isAgg3 (fun _ => Z.cellO (by assumption) (by simp) (by assumption)) | fail "load 10.5") ?_
                refine Z.l rfl rfl (by rfl) (Z.keepS hs) (Z.Yd.add rfl rfl (fun hG => Z.wi64 (by first | omega | (have hG' := Z.gh rfl hG; simp at hG'; omega)))) ?_
                refine Z.lb 1 rfl ?_
                refine Z.yes (s := 100) (b := false) rfl rfl rfl ?_
                refine Z.l rfl rfl (by rfl) (Z.keepS hs) (Z.Yd.pickF rfl rfl) ?_
                refine Z.lnil ?_
                refine Z.only [1, 3, 4, 5, 6, 13, 17, 18, 106] rfl ?_
                refine Z.nthen ?_
                refine Z.cond rfl (fun h => absurd h (by simp; omega)) (fun hc10 => ?_)
                refine Z.skip ?_
                refine Z.nthen ?_
                refine Z.seq ?_
                refine Z.region ?_
                rw [q3] at hs
                refine Z.l rfl rfl (by rfl) (Z.keepS hs) (Z.Yd.pure rfl) ?_
                refine Z.le rfl trivial ?_
                refine Z.ZO.call rfl rfl (by rfl) rfl rfl Try.call15 rfl (ac_Message3 ga m3 _ (hs.celOf (cs := m3.cells) (by first | ((repeat (first | exact List.mem_cons_self | refine List.mem_cons_of_mem _ ?_ | refine List.mem_append_right _ ?_)); done) | fail)) c3 (by rw [hm3])) ?_
                rintro v12_1 w12_1 ⟨u, rfl, Bm, cm, com, rfl, hy⟩
                replace hs := hs.call hy
                clear hy
                try simp only [List.cons_append, List.nil_append, List.append_nil] at hs
                refine Z.lb 3 rfl ?_
                refine Z.le rfl trivial ?_
                refine Z.ZO.alloc rfl rfl (by rfl) Try.zeroValue40 rfl hs ?_
                clear hs; intro g19 w19 hs
                refine Z.le rfl trivial ?_
                first | refine Z.ZO.storeA rfl rfl hs rfl rfl (by kernel_rfl) (by first | (simp [Value.oneCell']; done) | (refine Z.all_one ?_; assumption)) (by first | exact SX.at0 | exact SX.at1 | exact SX.at2 | exact SX.at3 | exact SX.at4 | exact SX.at5 | exact Z.at6 | exact Z.at7 | exact Z.at8 | exact Z.at9 | exact Z.at10 | exact Z.at11 | exact Z.at12) (by rfl) ?_ | refine Z.ZO.storeP rfl rfl hs rfl rfl (by kernel_rfl) (by first | (simp [Value.oneCell']; done) | (refine Z.all_one ?_; assumption)) (by first | exact SX.at0 | exact SX.at1 | exact SX.at2 | exact SX.at3 | exact SX.at4 | exact SX.at5 | exact Z.at6 | exact Z.at7 | exact Z.at8 | exact Z.at9 | exact Z.at10 | exact Z.at11 | exact Z.at12) (by first | decide | (simp; done) | (simp; omega)) ?_ | refine Z.ZO.storePR rfl rfl hs rfl rfl (by kernel_rfl) (by first | (simp [Value.oneCell']; done) | (refine Z.all_one ?_; assumption)) (by first | exact SX.at0 | exact SX.at1 | exact SX.at2 | exact SX.at3 | exact SX.at4 | exact SX.at5 | exact Z.at6 | exact Z.at7 | exact Z.at8 | exact Z.at9 | exact Z.at10 | exact Z.at11 | exact Z.at12) (by first | decide | (simp; done) | (simp; omega)) ?_
                clear hs; intro ws hs
                simp only [Nat.zero_add, Nat.add_zero, Nat.reduceAdd, Int.reduceToNat, Nat.reduceMul, List.set_cons_zero, List.set_cons_succ, List.setIfInBounds_toArray] at hs
                try simp only [Z.putL, Nat.zero_add] at hs
                refine Z.lb 1 rfl ?_
                refine Z.lnil ?_
                refine Z.only [1, 3, 4, 5, 6, 13, 17, 18, 19, 20] rfl ?_
                refine Z.nthen ?_
                refine Z.seq ?_
                refine Z.region ?_
                refine Z.lb 3 rfl ?_
                refine Z.l rfl rfl (by rfl) (Z.keepS hs) (Z.Yd.add rfl rfl (fun hG => Z.wi64 (by first | omega | (have hG' := Z.gh rfl hG; simp at hG'; omega)))) ?_
                refine Z.lb 1 rfl ?_
                refine Z.l rfl rfl (by rfl) (Z.keepS hs) (Z.Yd.add rfl rfl (fun hG => Z.wi64 (by first | omega | (have hG' := Z.gh rfl hG; simp at hG'; omega)))) ?_
                refine Z.l rfl rfl (by rfl) (Z.keepS hs) (by first | exact Z.Yd.loadA _ rfl Try.isAgg40 (fun _ => Z.cellsB (by first | ((repeat (first | exact List.mem_cons_self | refine List.mem_cons_of_mem _ ?_ | refine List.mem_append_right _ ?_)); done) | fail)) (by exact Try.sizeOf40) | fail "load 13.6") ?_
                replace hs : SX.St w [] _ ([SX.Ent.blk ga 64 m3.cells.toArray] ++ [_, _, _]) := hs.sel [2, 1, 0, 3] (by decide)
                refine Z.le rfl trivial ?_
                refine Z.ZO.call rfl rfl (by rfl) rfl rfl Try.call16 rfl (ac_resolve ga _ m3 (sent + wt + last) (msgC m3) Bm (msgL m3).length cm (msgL m3) _ hs.lend o3 (Z.row_lentv hs (j := 0) rfl) rfl (by omega) hmb) ?_
                rintro v13_7 w13_7 ⟨rfl, hz⟩
                replace hs := hs.regain hz
                simp only [List.cons_append, List.nil_append] at hs
                rw [q5a, q5b]
                refine Z.lb 5 rfl ?_
                refine Z.lnil ?_
                refine Z.only [3, 5, 6, 13, 17, 18, 20, 21, 22] rfl ?_
                refine Z.nthen ?_
                refine Z.seq ?_
                refine Z.seq ?_
                refine Z.region ?_
                refine Z.lb 3 rfl ?_
                refine Z.yes (s := 139) (b := false) rfl ((by simp)) rfl ?_
                refine Z.lb 2 rfl ?_
                refine Z.yes (s := 139) (b := false) rfl rfl rfl ?_
                refine Z.l rfl rfl (by rfl) (Z.keepS hs) (Z.Yd.pickF rfl rfl) ?_
                refine Z.lb 1 rfl ?_
                refine Z.yes (s := 143) (b := false) rfl ((by simp)) rfl ?_
                refine Z.lb 2 rfl ?_
                refine Z.yes (s := 143) (b := false) rfl rfl rfl ?_
                refine Z.l rfl rfl (by rfl) (Z.keepS hs) (Z.Yd.pickF rfl rfl) ?_
                refine Z.lnil ?_
                refine Z.only [3, 5, 6, 13, 21, 22, 146] rfl ?_
                refine Z.nthen ?_
                refine Z.cond rfl (fun h => absurd h (by simp)) (fun hc14 => ?_)
                refine Z.skip ?_
                refine Z.nthen ?_
                refine Z.seq ?_
                refine Z.seq ?_
                refine Z.region ?_
                refine Z.lb 1 rfl ?_
                refine Z.l rfl rfl (by rfl) (Z.keepS hs) (Z.Yd.fieldA (m := 3) rfl (by kernel_rfl)) ?_
                refine Z.l rfl rfl (by rfl) (Z.keepS hs) (by first | exact Z.Yd.load rfl Try.isAgg3 (fun _ => Z.cellB (by first | ((repeat (first | exact List.mem_cons_self | refine List.mem_cons_of_mem _ ?_ | refine List.mem_append_right _ ?_)); done) | fail) rfl) | exact Z.Yd.load rfl Try.isAgg3 (fun _ => Z.cellO (by assumption) (by simp) (by assumption)) | fail "load 16.2") ?_
                refine Z.lb 1 rfl ?_
                refine Z.lnil ?_
                refine Z.only [3, 6, 13, 21, 22, 150] rfl ?_
                refine Z.nthen ?_
                refine Z.cond rfl (fun hc16 => ?_) (fun h => absurd h (by simp; omega))
                refine Z.seq ?_
                refine Z.region ?_
                refine Z.lb 7 rfl ?_
                refine Z.yes (s := 157) (b := true) rfl ((by simp)) rfl ?_
                refine Z.lb 1 rfl ?_
                refine Z.yes (s := 157) (b := true) rfl rfl rfl ?_
                refine Z.le rfl (by exact ⟨rfl, trivial⟩) ?_
                refine Z.ZO.call rfl rfl (by rfl) rfl rfl Try.call17 rfl (ac_State ga _ _ (hs.celOf (by first | ((repeat (first | exact List.mem_cons_self | refine List.mem_cons_of_mem _ ?_ | refine List.mem_append_right _ ?_)); done) | fail)) o4.cfg) ?_
                rintro v17_8 w17_8 ⟨rfl, hy⟩
                replace hs := hs.call hy
                clear hy
                try simp only [List.cons_append, List.nil_append, List.append_nil] at hs
                refine Z.lb 1 rfl ?_
                refine Z.yes (s := 157) (b := true) rfl rfl rfl ?_
                refine Z.l rfl rfl (by rfl) (Z.keepS hs) (Z.Yd.pickT rfl rfl) ?_
                refine Z.lb 1 rfl ?_
                refine Z.yes (s := 162) (b := true) rfl ((by rcases q6 with h | h <;> rw [h] <;> simp)) rfl ?_
                refine Z.lb 1 rfl ?_
                refine Z.yes (s := 162) (b := true) rfl rfl rfl ?_
                refine Z.le rfl (by exact ⟨rfl, trivial⟩) ?_
                refine Z.ZO.call rfl rfl (by rfl) rfl rfl Try.call14 rfl (ac_RNTI ga _ _ (hs.celOf (by first | ((repeat (first | exact List.mem_cons_self | refine List.mem_cons_of_mem _ ?_ | refine List.mem_append_right _ ?_)); done) | fail)) o4.cfg) ?_
                rintro v17_13 w17_13 ⟨rfl, hy⟩
                replace hs := hs.call hy
                clear hy
                try simp only [List.cons_append, List.nil_append, List.append_nil] at hs
                rw [q7]
                refine Z.lb 1 rfl ?_
                refine Z.yes (s := 162) (b := true) rfl rfl rfl ?_
                refine Z.l rfl rfl (by rfl) (Z.keepS hs) (Z.Yd.pickT rfl rfl) ?_
                refine Z.lb 1 rfl ?_
                refine Z.yes (s := 167) (b := true) rfl ((by first | (simp; done) | (simp; rcases q6 with h | h <;> rw [h] <;> simp))) rfl ?_
                refine Z.le rfl (by exact ⟨rfl, trivial⟩) ?_
                refine Z.ZO.call rfl rfl (by rfl) rfl rfl Try.call10 rfl (ac_known _) ?_
                rintro v17_17 w17_17 ⟨rfl, hy⟩
                replace hs := hs.call hy
                clear hy
                try simp only [List.cons_append, List.nil_append, List.append_nil] at hs
                refine Z.l rfl rfl (by rfl) (Z.keepS hs) (Z.Yd.pickT rfl rfl) ?_
                refine Z.lb 1 rfl ?_
                refine Z.lnil ?_
                refine Z.only [12] rfl ?_
                refine Z.nthen ?_
                refine Z.ret ?_
                repeat (first | refine Z.rthen ?_ | refine Z.rblock ?_ | refine Z.rscope ?_)
                -- ret#1
                refine Z.out1 (by exact ⟨rfl, trivial⟩) ?_
                first | exact ⟨_, rfl, rfl, hs⟩ | exact ⟨_, rfl, rfl, hs.sub (List.nil_sublist _)⟩
                )
        · have q5 := resolve_own (m := m3) (t := sent + wt + last) (by rw [hm3]; exact c3) (by rw [hm3]) ht3 (by rw [hm3]; simp only; omega) (by rw [hm3]; simp only; omega)
          have q5a := congrArg (fun z => z.2.1) q5
          have q5b := congrArg (fun z => z.2.2) q5
          have q6 : (resolveV m3 (sent + wt + last) (msgC m3) (msgL m3)).1.st = 4 := by rw [q5]
          have q7 : useV (resolveV m3 (sent + wt + last) (msgC m3) (msgL m3)).1 = if r = 0 then rnti else r := by
            rw [q5, hm3]
            unfold useV
            simp only [if_true]
            by_cases h0 : r = 0
            · rw [if_pos h0, if_neg (by omega)]
            · rw [if_neg h0, if_pos (by omega)]
          simp only at q5a q5b
          rw [← hm3] at q3 o3 c3 hml hmb o4
          refine Z.enter Try.func3 rfl Try.ntmps3 rfl rfl ?_
          refine Z.seq ?_
          refine Z.region ?_
          refine Z.le rfl trivial ?_
          refine Z.ZO.box rfl rfl (by rfl) rfl rfl hs ?_
          clear hs; intro g6 w6 hs
          refine Z.lb 1 rfl ?_
          refine Z.lnil ?_
          refine Z.only [1, 2, 3, 4, 5, 6] rfl ?_
          refine Z.nthen ?_
          refine Z.seq ?_
          refine Z.region ?_
          refine Z.l rfl rfl (by rfl) (Z.keepS hs) (by first | exact Z.Yd.loadA _ rfl Try.isAgg24 (fun _ => Z.cellsB (by first | ((repeat (first | exact List.mem_cons_self | refine List.mem_cons_of_mem _ ?_ | refine List.mem_append_right _ ?_)); done) | fail)) (by exact Try.sizeOf24) | fail "load 1.0") ?_
          refine Z.le rfl trivial ?_
          refine Z.ZO.call rfl rfl (by rfl) rfl rfl Try.call9 rfl (ac_newT i r n c x _ hi hc) ?_
          rintro v1_1 w1_1 ⟨ga, rfl, hy⟩
          replace hs := hs.call hy
          clear hy
          try simp only [List.cons_append, List.nil_append, List.append_nil] at hs
          replace hs : SX.St w [] _ [SX.Ent.blk ga 64 (newV i r n c x).cells.toArray, _] := hs
          refine Z.lb 5 rfl ?_
          refine Z.lnil ?_
          refine Z.only [1, 2, 3, 4, 5, 6, 13, 14] rfl ?_
          refine Z.nthen ?_
          refine Z.seq ?_
          refine Z.seq ?_
          refine Z.region ?_
          refine Z.lb 3 rfl ?_
          refine Z.yes (s := 31) (b := false) rfl ((by simp)) rfl ?_
          refine Z.lb 2 rfl ?_
          refine Z.yes (s := 31) (b := false) rfl rfl rfl ?_
          refine Z.l rfl rfl (by rfl) (Z.keepS hs) (Z.Yd.pickF rfl rfl) ?_
          refine Z.lb 1 rfl ?_
          refine Z.yes (s := 35) (b := false) rfl ((by simp; omega)) rfl ?_
          refine Z.lb 2 rfl ?_
          refine Z.yes (s := 35) (b := false) rfl rfl rfl ?_
          refine Z.l rfl rfl (by rfl) (Z.keepS hs) (Z.Yd.pickF rfl rfl) ?_
          refine Z.lb 1 rfl ?_
          refine Z.yes (s := 39) (b := false) rfl ((by simp; omega)) rfl ?_
          refine Z.lb 2 rfl ?_
          refine Z.yes (s := 39) (b := false) rfl rfl rfl ?_
          refine Z.l rfl rfl (by rfl) (Z.keepS hs) (Z.Yd.pickF rfl rfl) ?_
          refine Z.lb 1 rfl ?_
          refine Z.yes (s := 43) (b := false) rfl ((by simp; omega)) rfl ?_
          refine Z.lb 2 rfl ?_
          refine Z.yes (s := 43) (b := false) rfl rfl rfl ?_
          refine Z.l rfl rfl (by rfl) (Z.keepS hs) (Z.Yd.pickF rfl rfl) ?_
          refine Z.lb 1 rfl ?_
          refine Z.yes (s := 47) (b := false) rfl ((by simp; omega)) rfl ?_
          refine Z.lb 2 rfl ?_
          refine Z.yes (s := 47) (b := false) rfl rfl rfl ?_
          refine Z.l rfl rfl (by rfl) (Z.keepS hs) (Z.Yd.pickF rfl rfl) ?_
          refine Z.lb 1 rfl ?_
          refine Z.yes (s := 51) (b := false) rfl ((by simp; omega)) rfl ?_
          refine Z.lb 2 rfl ?_
          refine Z.yes (s := 51) (b := false) rfl rfl rfl ?_
          refine Z.l rfl rfl (by rfl) (Z.keepS hs) (Z.Yd.pickF rfl rfl) ?_
          refine Z.lb 1 rfl ?_
          refine Z.yes (s := 55) (b := false) rfl ((by simp; omega)) rfl ?_
          refine Z.lb 2 rfl ?_
          refine Z.yes (s := 55) (b := false) rfl rfl rfl ?_
          refine Z.l rfl rfl (by rfl) (Z.keepS hs) (Z.Yd.pickF rfl rfl) ?_
          refine Z.lb 1 rfl ?_
          refine Z.yes (s := 59) (b := false) rfl ((by simp; omega)) rfl ?_
          refine Z.lb 2 rfl ?_
          refine Z.yes (s := 59) (b := false) rfl rfl rfl ?_
          refine Z.l rfl rfl (by rfl) (Z.keepS hs) (Z.Yd.pickF rfl rfl) ?_
          refine Z.lb 1 rfl ?_
          refine Z.yes (s := 63) (b := false) rfl ((by simp; omega)) rfl ?_
          refine Z.lb 2 rfl ?_
          refine Z.yes (s := 63) (b := false) rfl rfl rfl ?_
          refine Z.l rfl rfl (by rfl) (Z.keepS hs) (Z.Yd.pickF rfl rfl) ?_
          refine Z.lnil ?_
          refine Z.only [1, 2, 3, 4, 5, 6, 13, 66] rfl ?_
          refine Z.nthen ?_
          refine Z.cond rfl (fun h => absurd h (by simp; omega)) (fun hc2 => ?_)
          refine Z.skip ?_
          refine Z.nthen ?_
          refine Z.seq ?_
          refine Z.seq ?_
          refine Z.region ?_
          refine Z.lb 2 rfl ?_
          refine Z.le rfl trivial ?_
          refine Z.ZO.call rfl rfl (by rfl) rfl rfl Try.call11 rfl (ac_start ga _ (newV i r n c x) sent _ (hs.lend (L1 := [_])) hok) ?_
          rintro v4_2 w4_2 ⟨rfl, hz⟩
          replace hs := hs.regain (L1 := [_]) hz
          rw [q1]
          rw [q1] at hs
          refine Z.lb 1 rfl ?_
          refine Z.lnil ?_
          refine Z.only [1, 2, 3, 4, 5, 6, 13, 71] rfl ?_
          refine Z.nthen ?_
          refine Z.cond rfl (fun h => absurd h (by simp)) (fun hc4 => ?_)
          refine Z.skip ?_
          refine Z.nthen ?_
          refine Z.seq ?_
          refine Z.region ?_
          refine Z.lb 3 rfl ?_
          refine Z.le rfl trivial ?_
          refine Z.ZO.call rfl rfl (by rfl) rfl rfl Try.call12 rfl (ac_send ga _ _ sent draw _ (hs.lend (L1 := [_])) o1) ?_
          rintro v6_3 w6_3 ⟨rfl, hz⟩
          replace hs := hs.regain (L1 := [_]) hz
          rw [show ((⟨i, r, n, c, x, 1, sent, sent, 0, 0, 0, 0, 0⟩ : AcV), (0 : Int)).1 = ⟨i, r, n, c, x, 1, sent, sent, 0, 0, 0, 0, 0⟩ from rfl, q2] at hs
          rw [q2]
          refine Z.lb 5 rfl ?_
          refine Z.lnil ?_
          refine Z.only [1, 2, 3, 4, 5, 6, 13, 15, 16] rfl ?_
          refine Z.nthen ?_
          refine Z.seq ?_
          refine Z.seq ?_
          refine Z.region ?_
          refine Z.lb 3 rfl ?_
          refine Z.yes (s := 81) (b := false) rfl ((by simp)) rfl ?_
          refine Z.lb 2 rfl ?_
          refine Z.l rfl rfl (by rfl) (Z.keepS hs) (Z.Yd.rem rfl rfl (by intro hG; first | decide | omega) (by intro hG; first | exact Z.tmodn (by omega) | exact rfl)) ?_
          refine Z.lb 1 rfl ?_
          refine Z.yes (s := 81) (b := false) rfl rfl rfl ?_
          refine Z.l rfl rfl (by rfl) (Z.keepS hs) (Z.Yd.pickF rfl rfl) ?_
          refine Z.lnil ?_
          refine Z.only [1, 3, 4, 5, 6, 13, 15, 86] rfl ?_
          refine Z.nthen ?_
          refine Z.cond rfl (fun h => absurd h (by simp)) (fun hc7 => ?_)
          refine Z.skip ?_
          refine Z.nthen ?_
          refine Z.seq ?_
          refine Z.region ?_
          refine Z.lb 3 rfl ?_
          refine Z.l rfl rfl (by rfl) (Z.keepS hs) (Z.Yd.add rfl rfl (fun hG => Z.wi64 (by first | omega | (have hG' := Z.gh rfl hG; simp at hG'; omega)))) ?_
          refine Z.lb 2 rfl ?_
          refine Z.l rfl rfl (by rfl) (Z.keepS hs) (Z.Yd.buildL [(0, 1), (1, 1), (2, 1)] [.int .i64 0, .int .i64 0, .int .i64 0] rfl rfl (by intro w; kernel_rfl)) ?_
          refine Z.le rfl trivial ?_
          refine Z.ZO.call rfl rfl (by rfl) rfl rfl Try.call13 rfl (ac_answer ga _ _ (sent + wt) (draw % 64) rnti 0 _ (hs.lend (L1 := [_])) o2) ?_
          rintro v9_7 w9_7 ⟨rfl, hz⟩
          replace hs := hs.regain (L1 := [_]) hz
          simp only [List.cons_append, List.nil_append] at hs
          rw [q3a, q3b]
          refine Z.lb 5 rfl ?_
          refine Z.lnil ?_
          refine Z.only [1, 3, 4, 5, 6, 13, 17, 18] rfl ?_
          refine Z.nthen ?_
          refine Z.seq ?_
          refine Z.seq ?_
          refine Z.region ?_
          refine Z.lb 3 rfl ?_
          refine Z.split (s := 100) rfl (fun hsp100 => ?_) (fun hsp100 => ?_)
          · first
              | (exfalso; simp at hsp100 <;> omega)
              | (
                refine Z.yes (s := 100) (b := true) rfl hsp100 rfl ?_
                (try simp at hsp100)
                refine Z.ls rfl rfl rfl (by rfl) ?_
                refine Z.ls rfl rfl rfl (by rfl) ?_
                refine Z.ls rfl rfl rfl (by rfl) ?_
                refine Z.ls rfl rfl rfl (by rfl) ?_
                refine Z.ls rfl rfl rfl (by rfl) ?_
                refine Z.l rfl rfl (by rfl) (Z.keepS hs) (Z.Yd.pickT rfl rfl) ?_
                refine Z.lnil ?_
                refine Z.only [1, 3, 4, 5, 6, 13, 17, 18, 106] rfl ?_
                refine Z.nthen ?_
                refine Z.cond rfl (fun h => absurd h (by simp; omega)) (fun hc10 => ?_)
                refine Z.skip ?_
                refine Z.nthen ?_
                refine Z.seq ?_
                refine Z.region ?_
                rw [q3] at hs
                refine Z.l rfl rfl (by rfl) (Z.keepS hs) (Z.Yd.pure rfl) ?_
                refine Z.le rfl trivial ?_
                refine Z.ZO.call rfl rfl (by rfl) rfl rfl Try.call15 rfl (ac_Message3 ga m3 _ (hs.celOf (cs := m3.cells) (by first | ((repeat (first | exact List.mem_cons_self | refine List.mem_cons_of_mem _ ?_ | refine List.mem_append_right _ ?_)); done) | fail)) c3 (by rw [hm3])) ?_
                rintro v12_1 w12_1 ⟨u, rfl, Bm, cm, com, rfl, hy⟩
                replace hs := hs.call hy
                clear hy
                try simp only [List.cons_append, List.nil_append, List.append_nil] at hs
                refine Z.lb 3 rfl ?_
                refine Z.le rfl trivial ?_
                refine Z.ZO.alloc rfl rfl (by rfl) Try.zeroValue40 rfl hs ?_
                clear hs; intro g19 w19 hs
                refine Z.le rfl trivial ?_
                first | refine Z.ZO.storeA rfl rfl hs rfl rfl (by kernel_rfl) (by first | (simp [Value.oneCell']; done) | (refine Z.all_one ?_; assumption)) (by first | exact SX.at0 | exact SX.at1 | exact SX.at2 | exact SX.at3 | exact SX.at4 | exact SX.at5 | exact Z.at6 | exact Z.at7 | exact Z.at8 | exact Z.at9 | exact Z.at10 | exact Z.at11 | exact Z.at12) (by rfl) ?_ | refine Z.ZO.storeP rfl rfl hs rfl rfl (by kernel_rfl) (by first | (simp [Value.oneCell']; done) | (refine Z.all_one ?_; assumption)) (by first | exact SX.at0 | exact SX.at1 | exact SX.at2 | exact SX.at3 | exact SX.at4 | exact SX.at5 | exact Z.at6 | exact Z.at7 | exact Z.at8 | exact Z.at9 | exact Z.at10 | exact Z.at11 | exact Z.at12) (by first | decide | (simp; done) | (simp; omega)) ?_ | refine Z.ZO.storePR rfl rfl hs rfl rfl (by kernel_rfl) (by first | (simp [Value.oneCell']; done) | (refine Z.all_one ?_; assumption)) (by first | exact SX.at0 | exact SX.at1 | exact SX.at2 | exact SX.at3 | exact SX.at4 | exact SX.at5 | exact Z.at6 | exact Z.at7 | exact Z.at8 | exact Z.at9 | exact Z.at10 | exact Z.at11 | exact Z.at12) (by first | decide | (simp; done) | (simp; omega)) ?_
                clear hs; intro ws hs
                simp only [Nat.zero_add, Nat.add_zero, Nat.reduceAdd, Int.reduceToNat, Nat.reduceMul, List.set_cons_zero, List.set_cons_succ, List.setIfInBounds_toArray] at hs
                try simp only [Z.putL, Nat.zero_add] at hs
                refine Z.lb 1 rfl ?_
                refine Z.lnil ?_
                refine Z.only [1, 3, 4, 5, 6, 13, 17, 18, 19, 20] rfl ?_
                refine Z.nthen ?_
                refine Z.seq ?_
                refine Z.region ?_
                refine Z.lb 3 rfl ?_
                refine Z.l rfl rfl (by rfl) (Z.keepS hs) (Z.Yd.add rfl rfl (fun hG => Z.wi64 (by first | omega | (have hG' := Z.gh rfl hG; simp at hG'; omega)))) ?_
                refine Z.lb 1 rfl ?_
                refine Z.l rfl rfl (by rfl) (Z.keepS hs) (Z.Yd.add rfl rfl (fun hG => Z.wi64 (by first | omega | (have hG' := Z.gh rfl hG; simp at hG'; omega)))) ?_
                refine Z.l rfl rfl (by rfl) (Z.keepS hs) (by first | exact Z.Yd.loadA _ rfl Try.isAgg40 (fun _ => Z.cellsB (by first | ((repeat (first | exact List.mem_cons_self | refine List.mem_cons_of_mem _ ?_ | refine List.mem_append_right _ ?_)); done) | fail)) (by exact Try.sizeOf40) | fail "load 13.6") ?_
                replace hs : SX.St w [] _ ([SX.Ent.blk ga 64 m3.cells.toArray] ++ [_, _, _]) := hs.sel [2, 1, 0, 3] (by decide)
                refine Z.le rfl trivial ?_
                refine Z.ZO.call rfl rfl (by rfl) rfl rfl Try.call16 rfl (ac_resolve ga _ m3 (sent + wt + last) (msgC m3) Bm (msgL m3).length cm (msgL m3) _ hs.lend o3 (Z.row_lentv hs (j := 0) rfl) rfl (by omega) hmb) ?_
                rintro v13_7 w13_7 ⟨rfl, hz⟩
                replace hs := hs.regain hz
                simp only [List.cons_append, List.nil_append] at hs
                rw [q5a, q5b]
                refine Z.lb 5 rfl ?_
                refine Z.lnil ?_
                refine Z.only [3, 5, 6, 13, 17, 18, 20, 21, 22] rfl ?_
                refine Z.nthen ?_
                refine Z.seq ?_
                refine Z.seq ?_
                refine Z.region ?_
                refine Z.lb 3 rfl ?_
                refine Z.yes (s := 139) (b := false) rfl ((by simp)) rfl ?_
                refine Z.lb 2 rfl ?_
                refine Z.yes (s := 139) (b := false) rfl rfl rfl ?_
                refine Z.l rfl rfl (by rfl) (Z.keepS hs) (Z.Yd.pickF rfl rfl) ?_
                refine Z.lb 1 rfl ?_
                refine Z.yes (s := 143) (b := false) rfl ((by simp)) rfl ?_
                refine Z.lb 2 rfl ?_
                refine Z.yes (s := 143) (b := false) rfl rfl rfl ?_
                refine Z.l rfl rfl (by rfl) (Z.keepS hs) (Z.Yd.pickF rfl rfl) ?_
                refine Z.lnil ?_
                refine Z.only [3, 5, 6, 13, 21, 22, 146] rfl ?_
                refine Z.nthen ?_
                refine Z.cond rfl (fun h => absurd h (by simp)) (fun hc14 => ?_)
                refine Z.skip ?_
                refine Z.nthen ?_
                refine Z.seq ?_
                refine Z.seq ?_
                refine Z.region ?_
                refine Z.lb 1 rfl ?_
                refine Z.l rfl rfl (by rfl) (Z.keepS hs) (Z.Yd.fieldA (m := 3) rfl (by kernel_rfl)) ?_
                refine Z.l rfl rfl (by rfl) (Z.keepS hs) (by first | exact Z.Yd.load rfl Try.isAgg3 (fun _ => Z.cellB (by first | ((repeat (first | exact List.mem_cons_self | refine List.mem_cons_of_mem _ ?_ | refine List.mem_append_right _ ?_)); done) | fail) rfl) | exact Z.Yd.load rfl Try.isAgg3 (fun _ => Z.cellO (by assumption) (by simp) (by assumption)) | fail "load 16.2") ?_
                refine Z.lb 1 rfl ?_
                refine Z.lnil ?_
                refine Z.only [3, 6, 13, 21, 22, 150] rfl ?_
                refine Z.nthen ?_
                refine Z.cond rfl (fun h => absurd h (by simp; omega)) (fun hc16 => ?_)
                refine Z.skip ?_
                refine Z.nthen ?_
                refine Z.seq ?_
                refine Z.region ?_
                refine Z.lb 2 rfl ?_
                refine Z.lnil ?_
                refine Z.only [6, 13, 21, 22, 23] rfl ?_
                refine Z.nthen ?_
                refine Z.seq ?_
                refine Z.seq ?_
                refine Z.region ?_
                refine Z.l rfl rfl (by rfl) (Z.keepS hs) (Z.Yd.fieldA (m := 1) rfl (by kernel_rfl)) ?_
                refine Z.l rfl rfl (by rfl) (Z.keepS hs) (by first | exact Z.Yd.load rfl Try.isAgg3 (fun _ => Z.cellB (by first | ((repeat (first | exact List.mem_cons_self | refine List.mem_cons_of_mem _ ?_ | refine List.mem_append_right _ ?_)); done) | fail) rfl) | exact Z.Yd.load rfl Try.isAgg3 (fun _ => Z.cellO (by assumption) (by simp) (by assumption)) | fail "load 19.1") ?_
                refine Z.lb 1 rfl ?_
                refine Z.lnil ?_
                refine Z.only [6, 13, 21, 22, 23, 173] rfl ?_
                refine Z.nthen ?_
                refine Z.cutt (ι := Nat) [13, 21, 22] rfl (fun _ => [(23, [], .int .i64 (if r = 0 then rnti else r))]) (fun _ wr => SX.St w [] wr [SX.Ent.blk ga 64 (resolveV m3 (sent + wt + last) (msgC m3) (msgL m3)).1.cells.toArray]) ?_ ?_
                · skip
                  refine Z.cond rfl (fun hc19 => ?_) (fun hc19 => ?_)
                  · first
                      | (exfalso; simp at hc19 <;> omega)
                      | (
                        (try simp at hc19)
                        refine Z.region ?_
                        refine Z.l rfl rfl (by rfl) (Z.keepS hs) (Z.Yd.fieldA (m := 1) rfl (by kernel_rfl)) ?_
                        refine Z.l rfl rfl (by rfl) (Z.keepS hs) (by first | exact Z.Yd.load rfl Try.isAgg3 (fun _ => Z.cellB (by first | ((repeat (first | exact List.mem_cons_self | refine List.mem_cons_of_mem _ ?_ | refine List.mem_append_right _ ?_)); done) | fail) rfl) | exact Z.Yd.load rfl Try.isAgg3 (fun _ => Z.cellO (by assumption) (by simp) (by assumption)) | fail "load 20.1") ?_
                        refine Z.lb 1 rfl ?_
                        refine Z.lnil ?_
                        refine Z.only [13, 21, 22, 23] rfl ?_
                        refine Z.nthen ?_
                        first | exact Z.meet 0 (by refine ⟨?_, ?_, ?_, ?_, trivial⟩ <;> first | rfl | (refine Z.lookv rfl ?_; congr 1; rw [if_pos (by assumption)]) | (refine Z.lookv rfl ?_; congr 1; rw [if_neg (by assumption)])) (hs.sel [0] (by decide))
                        )
                  · first
                      | (exfalso; simp at hc19 <;> omega)
                      | (
                        (try simp at hc19)
                        refine Z.skip ?_
                        refine Z.nthen ?_
                        first | exact Z.meet 0 (by refine ⟨?_, ?_, ?_, ?_, trivial⟩ <;> first | rfl | (refine Z.lookv rfl ?_; congr 1; rw [if_pos (by assumption)]) | (refine Z.lookv rfl ?_; congr 1; rw [if_neg (by assumption)])) (hs.sel [0] (by decide))
                        )
                · clear hs
                  rintro _ w19 hs
                  refine Z.only [13, 21, 22, 23] rfl ?_
                  refine Z.seq ?_
                  refine Z.region ?_
                  refine Z.lb 2 rfl ?_
                  refine Z.yes (s := 177) (b := true) rfl ((by simp)) rfl ?_
                  refine Z.lb 2 rfl ?_
                  refine Z.yes (s := 177) (b := true) rfl rfl rfl ?_
                  refine Z.l rfl rfl (by rfl) (Z.keepS hs) (Z.Yd.pickT rfl rfl) ?_
                  refine Z.lb 1 rfl ?_
                  refine Z.yes (s := 181) (b := true) rfl ((by simp)) rfl ?_
                  refine Z.lb 1 rfl ?_
                  refine Z.yes (s := 181) (b := true) rfl rfl rfl ?_
                  refine Z.le rfl (by exact ⟨rfl, trivial⟩) ?_
                  refine Z.ZO.call rfl rfl (by rfl) rfl rfl Try.call17 rfl (ac_State ga _ _ (hs.celOf (by first | ((repeat (first | exact List.mem_cons_self | refine List.mem_cons_of_mem _ ?_ | refine List.mem_append_right _ ?_)); done) | fail)) o4.cfg) ?_
                  rintro v21_7 w21_7 ⟨rfl, hy⟩
                  replace hs := hs.call hy
                  clear hy
                  try simp only [List.cons_append, List.nil_append, List.append_nil] at hs
                  rw [q6]
                  refine Z.lb 1 rfl ?_
                  refine Z.yes (s := 181) (b := true) rfl rfl rfl ?_
                  refine Z.l rfl rfl (by rfl) (Z.keepS hs) (Z.Yd.pickT rfl rfl) ?_
                  refine Z.lb 1 rfl ?_
                  refine Z.yes (s := 186) (b := true) rfl ((by simp)) rfl ?_
                  refine Z.lb 1 rfl ?_
                  refine Z.yes (s := 186) (b := true) rfl rfl rfl ?_
                  refine Z.le rfl (by exact ⟨rfl, trivial⟩) ?_
                  refine Z.ZO.call rfl rfl (by rfl) rfl rfl Try.call14 rfl (ac_RNTI ga _ _ (hs.celOf (by first | ((repeat (first | exact List.mem_cons_self | refine List.mem_cons_of_mem _ ?_ | refine List.mem_append_right _ ?_)); done) | fail)) o4.cfg) ?_
                  rintro v21_12 w21_12 ⟨rfl, hy⟩
                  replace hs := hs.call hy
                  clear hy
                  try simp only [List.cons_append, List.nil_append, List.append_nil] at hs
                  rw [q7]
                  refine Z.lb 2 rfl ?_
                  refine Z.yes (s := 186) (b := true) rfl rfl rfl ?_
                  refine Z.l rfl rfl (by rfl) (Z.keepS hs) (Z.Yd.pickT rfl rfl) ?_
                  refine Z.lb 1 rfl ?_
                  refine Z.yes (s := 192) (b := true) rfl ((by simp)) rfl ?_
                  refine Z.le rfl (by exact ⟨rfl, trivial⟩) ?_
                  refine Z.ZO.call rfl rfl (by rfl) rfl rfl Try.call10 rfl (ac_known _) ?_
                  rintro v21_17 w21_17 ⟨rfl, hy⟩
                  replace hs := hs.call hy
                  clear hy
                  try simp only [List.cons_append, List.nil_append, List.append_nil] at hs
                  refine Z.l rfl rfl (by rfl) (Z.keepS hs) (Z.Yd.pickT rfl rfl) ?_
                  refine Z.lb 1 rfl ?_
                  refine Z.lnil ?_
                  refine Z.only [12] rfl ?_
                  refine Z.nthen ?_
                  refine Z.ret ?_
                  -- ret#0
                  refine Z.out1 (by exact ⟨rfl, trivial⟩) ?_
                  first | exact ⟨_, rfl, rfl, hs⟩ | exact ⟨_, rfl, rfl, hs.sub (List.nil_sublist _)⟩
                )
          · first
              | (exfalso; simp at hsp100 <;> omega)
              | (
                refine Z.yes (s := 100) (b := false) rfl hsp100 rfl ?_
                (try simp at hsp100)
                refine Z.lb 1 rfl ?_
                refine Z.l rfl rfl (by rfl) (Z.keepS hs) (Z.Yd.fieldA (m := 2) rfl (by kernel_rfl)) ?_
                refine Z.l rfl rfl (by rfl) (Z.keepS hs) (by first | exact Z.Yd.load rfl Try.isAgg3 (fun _ => Z.cellB (by first | ((repeat (first | exact List.mem_cons_self | refine List.mem_cons_of_mem _ ?_ | refine List.mem_append_right _ ?_)); done) | fail) rfl) | exact Z.Yd.load rfl Try.isAgg3 (fun _ => Z.cellO (by assumption) (by simp) (by assumption)) | fail "load 10.5") ?_
                refine Z.l rfl rfl (by rfl) (Z.keepS hs) (Z.Yd.add rfl rfl (fun hG => Z.wi64 (by first | omega | (have hG' := Z.gh rfl hG; simp at hG'; omega)))) ?_
                refine Z.lb 1 rfl ?_
                refine Z.yes (s := 100) (b := false) rfl rfl rfl ?_
                refine Z.l rfl rfl (by rfl) (Z.keepS hs) (Z.Yd.pickF rfl rfl) ?_
                refine Z.lnil ?_
                refine Z.only [1, 3, 4, 5, 6, 13, 17, 18, 106] rfl ?_
                refine Z.nthen ?_
                refine Z.cond rfl (fun h => absurd h (by simp; omega)) (fun hc10 => ?_)
                refine Z.skip ?_
                refine Z.nthen ?_
                refine Z.seq ?_
                refine Z.region ?_
                rw [q3] at hs
                refine Z.l rfl rfl (by rfl) (Z.keepS hs) (Z.Yd.pure rfl) ?_
                refine Z.le rfl trivial ?_
                refine Z.ZO.call rfl rfl (by rfl) rfl rfl Try.call15 rfl (ac_Message3 ga m3 _ (hs.celOf (cs := m3.cells) (by first | ((repeat (first | exact List.mem_cons_self | refine List.mem_cons_of_mem _ ?_ | refine List.mem_append_right _ ?_)); done) | fail)) c3 (by rw [hm3])) ?_
                rintro v12_1 w12_1 ⟨u, rfl, Bm, cm, com, rfl, hy⟩
                replace hs := hs.call hy
                clear hy
                try simp only [List.cons_append, List.nil_append, List.append_nil] at hs
                refine Z.lb 3 rfl ?_
                refine Z.le rfl trivial ?_
                refine Z.ZO.alloc rfl rfl (by rfl) Try.zeroValue40 rfl hs ?_
                clear hs; intro g19 w19 hs
                refine Z.le rfl trivial ?_
                first | refine Z.ZO.storeA rfl rfl hs rfl rfl (by kernel_rfl) (by first | (simp [Value.oneCell']; done) | (refine Z.all_one ?_; assumption)) (by first | exact SX.at0 | exact SX.at1 | exact SX.at2 | exact SX.at3 | exact SX.at4 | exact SX.at5 | exact Z.at6 | exact Z.at7 | exact Z.at8 | exact Z.at9 | exact Z.at10 | exact Z.at11 | exact Z.at12) (by rfl) ?_ | refine Z.ZO.storeP rfl rfl hs rfl rfl (by kernel_rfl) (by first | (simp [Value.oneCell']; done) | (refine Z.all_one ?_; assumption)) (by first | exact SX.at0 | exact SX.at1 | exact SX.at2 | exact SX.at3 | exact SX.at4 | exact SX.at5 | exact Z.at6 | exact Z.at7 | exact Z.at8 | exact Z.at9 | exact Z.at10 | exact Z.at11 | exact Z.at12) (by first | decide | (simp; done) | (simp; omega)) ?_ | refine Z.ZO.storePR rfl rfl hs rfl rfl (by kernel_rfl) (by first | (simp [Value.oneCell']; done) | (refine Z.all_one ?_; assumption)) (by first | exact SX.at0 | exact SX.at1 | exact SX.at2 | exact SX.at3 | exact SX.at4 | exact SX.at5 | exact Z.at6 | exact Z.at7 | exact Z.at8 | exact Z.at9 | exact Z.at10 | exact Z.at11 | exact Z.at12) (by first | decide | (simp; done) | (simp; omega)) ?_
                clear hs; intro ws hs
                simp only [Nat.zero_add, Nat.add_zero, Nat.reduceAdd, Int.reduceToNat, Nat.reduceMul, List.set_cons_zero, List.set_cons_succ, List.setIfInBounds_toArray] at hs
                try simp only [Z.putL, Nat.zero_add] at hs
                refine Z.lb 1 rfl ?_
                refine Z.lnil ?_
                refine Z.only [1, 3, 4, 5, 6, 13, 17, 18, 19, 20] rfl ?_
                refine Z.nthen ?_
                refine Z.seq ?_
                refine Z.region ?_
                refine Z.lb 3 rfl ?_
                refine Z.l rfl rfl (by rfl) (Z.keepS hs) (Z.Yd.add rfl rfl (fun hG => Z.wi64 (by first | omega | (have hG' := Z.gh rfl hG; simp at hG'; omega)))) ?_
                refine Z.lb 1 rfl ?_
                refine Z.l rfl rfl (by rfl) (Z.keepS hs) (Z.Yd.add rfl rfl (fun hG => Z.wi64 (by first | omega | (have hG' := Z.gh rfl hG; simp at hG'; omega)))) ?_
                refine Z.l rfl rfl (by rfl) (Z.keepS hs) (by first | exact Z.Yd.loadA _ rfl Try.isAgg40 (fun _ => Z.cellsB (by first | ((repeat (first | exact List.mem_cons_self | refine List.mem_cons_of_mem _ ?_ | refine List.mem_append_right _ ?_)); done) | fail)) (by exact Try.sizeOf40) | fail "load 13.6") ?_
                replace hs : SX.St w [] _ ([SX.Ent.blk ga 64 m3.cells.toArray] ++ [_, _, _]) := hs.sel [2, 1, 0, 3] (by decide)
                refine Z.le rfl trivial ?_
                refine Z.ZO.call rfl rfl (by rfl) rfl rfl Try.call16 rfl (ac_resolve ga _ m3 (sent + wt + last) (msgC m3) Bm (msgL m3).length cm (msgL m3) _ hs.lend o3 (Z.row_lentv hs (j := 0) rfl) rfl (by omega) hmb) ?_
                rintro v13_7 w13_7 ⟨rfl, hz⟩
                replace hs := hs.regain hz
                simp only [List.cons_append, List.nil_append] at hs
                rw [q5a, q5b]
                refine Z.lb 5 rfl ?_
                refine Z.lnil ?_
                refine Z.only [3, 5, 6, 13, 17, 18, 20, 21, 22] rfl ?_
                refine Z.nthen ?_
                refine Z.seq ?_
                refine Z.seq ?_
                refine Z.region ?_
                refine Z.lb 3 rfl ?_
                refine Z.yes (s := 139) (b := false) rfl ((by simp)) rfl ?_
                refine Z.lb 2 rfl ?_
                refine Z.yes (s := 139) (b := false) rfl rfl rfl ?_
                refine Z.l rfl rfl (by rfl) (Z.keepS hs) (Z.Yd.pickF rfl rfl) ?_
                refine Z.lb 1 rfl ?_
                refine Z.yes (s := 143) (b := false) rfl ((by simp)) rfl ?_
                refine Z.lb 2 rfl ?_
                refine Z.yes (s := 143) (b := false) rfl rfl rfl ?_
                refine Z.l rfl rfl (by rfl) (Z.keepS hs) (Z.Yd.pickF rfl rfl) ?_
                refine Z.lnil ?_
                refine Z.only [3, 5, 6, 13, 21, 22, 146] rfl ?_
                refine Z.nthen ?_
                refine Z.cond rfl (fun h => absurd h (by simp)) (fun hc14 => ?_)
                refine Z.skip ?_
                refine Z.nthen ?_
                refine Z.seq ?_
                refine Z.seq ?_
                refine Z.region ?_
                refine Z.lb 1 rfl ?_
                refine Z.l rfl rfl (by rfl) (Z.keepS hs) (Z.Yd.fieldA (m := 3) rfl (by kernel_rfl)) ?_
                refine Z.l rfl rfl (by rfl) (Z.keepS hs) (by first | exact Z.Yd.load rfl Try.isAgg3 (fun _ => Z.cellB (by first | ((repeat (first | exact List.mem_cons_self | refine List.mem_cons_of_mem _ ?_ | refine List.mem_append_right _ ?_)); done) | fail) rfl) | exact Z.Yd.load rfl Try.isAgg3 (fun _ => Z.cellO (by assumption) (by simp) (by assumption)) | fail "load 16.2") ?_
                refine Z.lb 1 rfl ?_
                refine Z.lnil ?_
                refine Z.only [3, 6, 13, 21, 22, 150] rfl ?_
                refine Z.nthen ?_
                refine Z.cond rfl (fun h => absurd h (by simp; omega)) (fun hc16 => ?_)
                refine Z.skip ?_
                refine Z.nthen ?_
                refine Z.seq ?_
                refine Z.region ?_
                refine Z.lb 2 rfl ?_
                refine Z.lnil ?_
                refine Z.only [6, 13, 21, 22, 23] rfl ?_
                refine Z.nthen ?_
                refine Z.seq ?_
                refine Z.seq ?_
                refine Z.region ?_
                refine Z.l rfl rfl (by rfl) (Z.keepS hs) (Z.Yd.fieldA (m := 1) rfl (by kernel_rfl)) ?_
                refine Z.l rfl rfl (by rfl) (Z.keepS hs) (by first | exact Z.Yd.load rfl Try.isAgg3 (fun _ => Z.cellB (by first | ((repeat (first | exact List.mem_cons_self | refine List.mem_cons_of_mem _ ?_ | refine List.mem_append_right _ ?_)); done) | fail) rfl) | exact Z.Yd.load rfl Try.isAgg3 (fun _ => Z.cellO (by assumption) (by simp) (by assumption)) | fail "load 19.1") ?_
                refine Z.lb 1 rfl ?_
                refine Z.lnil ?_
                refine Z.only [6, 13, 21, 22, 23, 173] rfl ?_
                refine Z.nthen ?_
                refine Z.cutt (ι := Nat) [13, 21, 22] rfl (fun _ => [(23, [], .int .i64 (if r = 0 then rnti else r))]) (fun _ wr => SX.St w [] wr [SX.Ent.blk ga 64 (resolveV m3 (sent + wt + last) (msgC m3) (msgL m3)).1.cells.toArray]) ?_ ?_
                · skip
                  refine Z.cond rfl (fun hc19 => ?_) (fun hc19 => ?_)
                  · first
                      | (exfalso; simp at hc19 <;> omega)
                      | (
                        (try simp at hc19)
                        refine Z.region ?_
                        refine Z.l rfl rfl (by rfl) (Z.keepS hs) (Z.Yd.fieldA (m := 1) rfl (by kernel_rfl)) ?_
                        refine Z.l rfl rfl (by rfl) (Z.keepS hs) (by first | exact Z.Yd.load rfl Try.isAgg3 (fun _ => Z.cellB (by first | ((repeat (first | exact List.mem_cons_self | refine List.mem_cons_of_mem _ ?_ | refine List.mem_append_right _ ?_)); done) | fail) rfl) | exact Z.Yd.load rfl Try.isAgg3 (fun _ => Z.cellO (by assumption) (by simp) (by assumption)) | fail "load 20.1") ?_
                        refine Z.lb 1 rfl ?_
                        refine Z.lnil ?_
                        refine Z.only [13, 21, 22, 23] rfl ?_
                        refine Z.nthen ?_
                        first | exact Z.meet 0 (by refine ⟨?_, ?_, ?_, ?_, trivial⟩ <;> first | rfl | (refine Z.lookv rfl ?_; congr 1; rw [if_pos (by assumption)]) | (refine Z.lookv rfl ?_; congr 1; rw [if_neg (by assumption)])) (hs.sel [0] (by decide))
                        )
                  · first
                      | (exfalso; simp at hc19 <;> omega)
                      | (
                        (try simp at hc19)
                        refine Z.skip ?_
                        refine Z.nthen ?_
                        first | exact Z.meet 0 (by refine ⟨?_, ?_, ?_, ?_, trivial⟩ <;> first | rfl | (refine Z.lookv rfl ?_; congr 1; rw [if_pos (by assumption)]) | (refine Z.lookv rfl ?_; congr 1; rw [if_neg (by assumption)])) (hs.sel [0] (by decide))
                        )
                · clear hs
                  rintro _ w19 hs
                  refine Z.only [13, 21, 22, 23] rfl ?_
                  refine Z.seq ?_
                  refine Z.region ?_
                  refine Z.lb 2 rfl ?_
                  refine Z.yes (s := 177) (b := true) rfl ((by simp)) rfl ?_
                  refine Z.lb 2 rfl ?_
                  refine Z.yes (s := 177) (b := true) rfl rfl rfl ?_
                  refine Z.l rfl rfl (by rfl) (Z.keepS hs) (Z.Yd.pickT rfl rfl) ?_
                  refine Z.lb 1 rfl ?_
                  refine Z.yes (s := 181) (b := true) rfl ((by simp)) rfl ?_
                  refine Z.lb 1 rfl ?_
                  refine Z.yes (s := 181) (b := true) rfl rfl rfl ?_
                  refine Z.le rfl (by exact ⟨rfl, trivial⟩) ?_
                  refine Z.ZO.call rfl rfl (by rfl) rfl rfl Try.call17 rfl (ac_State ga _ _ (hs.celOf (by first | ((repeat (first | exact List.mem_cons_self | refine List.mem_cons_of_mem _ ?_ | refine List.mem_append_right _ ?_)); done) | fail)) o4.cfg) ?_
                  rintro v21_7 w21_7 ⟨rfl, hy⟩
                  replace hs := hs.call hy
                  clear hy
                  try simp only [List.cons_append, List.nil_append, List.append_nil] at hs
                  rw [q6]
                  refine Z.lb 1 rfl ?_
                  refine Z.yes (s := 181) (b := true) rfl rfl rfl ?_
                  refine Z.l rfl rfl (by rfl) (Z.keepS hs) (Z.Yd.pickT rfl rfl) ?_
                  refine Z.lb 1 rfl ?_
                  refine Z.yes (s := 186) (b := true) rfl ((by simp)) rfl ?_
                  refine Z.lb 1 rfl ?_
                  refine Z.yes (s := 186) (b := true) rfl rfl rfl ?_
                  refine Z.le rfl (by exact ⟨rfl, trivial⟩) ?_
                  refine Z.ZO.call rfl rfl (by rfl) rfl rfl Try.call14 rfl (ac_RNTI ga _ _ (hs.celOf (by first | ((repeat (first | exact List.mem_cons_self | refine List.mem_cons_of_mem _ ?_ | refine List.mem_append_right _ ?_)); done) | fail)) o4.cfg) ?_
                  rintro v21_12 w21_12 ⟨rfl, hy⟩
                  replace hs := hs.call hy
                  clear hy
                  try simp only [List.cons_append, List.nil_append, List.append_nil] at hs
                  rw [q7]
                  refine Z.lb 2 rfl ?_
                  refine Z.yes (s := 186) (b := true) rfl rfl rfl ?_
                  refine Z.l rfl rfl (by rfl) (Z.keepS hs) (Z.Yd.pickT rfl rfl) ?_
                  refine Z.lb 1 rfl ?_
                  refine Z.yes (s := 192) (b := true) rfl ((by simp)) rfl ?_
                  refine Z.le rfl (by exact ⟨rfl, trivial⟩) ?_
                  refine Z.ZO.call rfl rfl (by rfl) rfl rfl Try.call10 rfl (ac_known _) ?_
                  rintro v21_17 w21_17 ⟨rfl, hy⟩
                  replace hs := hs.call hy
                  clear hy
                  try simp only [List.cons_append, List.nil_append, List.append_nil] at hs
                  refine Z.l rfl rfl (by rfl) (Z.keepS hs) (Z.Yd.pickT rfl rfl) ?_
                  refine Z.lb 1 rfl ?_
                  refine Z.lnil ?_
                  refine Z.only [12] rfl ?_
                  refine Z.nthen ?_
                  refine Z.ret ?_
                  -- ret#1
                  refine Z.out1 (by exact ⟨rfl, trivial⟩) ?_
                  first | exact ⟨_, rfl, rfl, hs⟩ | exact ⟨_, rfl, rfl, hs.sub (List.nil_sublist _)⟩
                )
    · skip
      refine Z.enter Try.func3 rfl Try.ntmps3 rfl rfl ?_
      refine Z.seq ?_
      refine Z.region ?_
      refine Z.le rfl trivial ?_
      refine Z.ZO.box rfl rfl (by rfl) rfl rfl hs ?_
      clear hs; intro g6 w6 hs
      refine Z.lb 1 rfl ?_
      refine Z.lnil ?_
      refine Z.only [1, 2, 3, 4, 5, 6] rfl ?_
      refine Z.nthen ?_
      refine Z.seq ?_
      refine Z.region ?_
      refine Z.l rfl rfl (by rfl) (Z.keepS hs) (by first | exact Z.Yd.loadA _ rfl Try.isAgg24 (fun _ => Z.cellsB (by first | ((repeat (first | exact List.mem_cons_self | refine List.mem_cons_of_mem _ ?_ | refine List.mem_append_right _ ?_)); done) | fail)) (by exact Try.sizeOf24) | fail "load 1.0") ?_
      refine Z.le rfl trivial ?_
      refine Z.ZO.call rfl rfl (by rfl) rfl rfl Try.call9 rfl (ac_newT i r n c x _ hi hc) ?_
      rintro v1_1 w1_1 ⟨ga, rfl, hy⟩
      replace hs := hs.call hy
      clear hy
      try simp only [List.cons_append, List.nil_append, List.append_nil] at hs
      refine Z.lb 5 rfl ?_
      refine Z.lnil ?_
      refine Z.only [1, 2, 3, 4, 5, 6, 13, 14] rfl ?_
      refine Z.nthen ?_
      refine Z.seq ?_
      refine Z.seq ?_
      refine Z.region ?_
      refine Z.lb 38 rfl ?_
      refine Z.lnil ?_
      refine Z.only [1, 2, 3, 4, 5, 6, 13, 66] rfl ?_
      refine Z.nthen ?_
      refine Z.cond rfl (fun hc2 => ?_) (fun h => absurd h (by simp; omega))
      refine Z.seq ?_
      refine Z.region ?_
      refine Z.le rfl trivial ?_
      refine Z.ZO.call rfl rfl (by rfl) rfl rfl Try.call10 rfl (ac_known _) ?_
      rintro v3_0 w3_0 ⟨rfl, hy⟩
      replace hs := hs.call hy
      clear hy
      try simp only [List.cons_append, List.nil_append, List.append_nil] at hs
      refine Z.lb 1 rfl ?_
      refine Z.lnil ?_
      refine Z.only [12] rfl ?_
      refine Z.nthen ?_
      refine Z.ret ?_
      repeat (first | refine Z.rthen ?_ | refine Z.rblock ?_ | refine Z.rscope ?_)
      -- ret#0
      refine Z.out1 (by exact ⟨rfl, trivial⟩) ?_
      first | exact ⟨_, rfl, rfl, hs⟩ | exact ⟨_, rfl, rfl, hs.sub (List.nil_sublist _)⟩
  · skip
    refine Z.enter Try.func3 rfl Try.ntmps3 rfl rfl ?_
    refine Z.seq ?_
    refine Z.region ?_
    refine Z.le rfl trivial ?_
    refine Z.ZO.box rfl rfl (by rfl) rfl rfl hs ?_
    clear hs; intro g6 w6 hs
    refine Z.lb 1 rfl ?_
    refine Z.lnil ?_
    refine Z.only [1, 2, 3, 4, 5, 6] rfl ?_
    refine Z.nthen ?_
    refine Z.seq ?_
    refine Z.region ?_
    refine Z.l rfl rfl (by rfl) (Z.keepS hs) (by first | exact Z.Yd.loadA _ rfl Try.isAgg24 (fun _ => Z.cellsB (by first | ((repeat (first | exact List.mem_cons_self | refine List.mem_cons_of_mem _ ?_ | refine List.mem_append_right _ ?_)); done) | fail)) (by exact Try.sizeOf24) | fail "load 1.0") ?_
    refine Z.le rfl trivial ?_
    refine Z.ZO.call rfl rfl (by rfl) rfl rfl Try.call9 rfl (ac_newF i r n c x _ hi hc) ?_
    rintro v1_1 w1_1 ⟨rfl, hy⟩
    replace hs := hs.call hy
    clear hy
    try simp only [List.cons_append, List.nil_append, List.append_nil] at hs
    refine Z.lb 5 rfl ?_
    refine Z.lnil ?_
    refine Z.only [1, 2, 3, 4, 5, 6, 13, 14] rfl ?_
    refine Z.nthen ?_
    refine Z.seq ?_
    refine Z.seq ?_
    refine Z.region ?_
    refine Z.lb 38 rfl ?_
    refine Z.lnil ?_
    refine Z.only [1, 2, 3, 4, 5, 6, 13, 66] rfl ?_
    refine Z.nthen ?_
    refine Z.cond rfl (fun hc2 => ?_) (fun h => absurd h (by simp))
    refine Z.seq ?_
    refine Z.region ?_
    refine Z.le rfl trivial ?_
    refine Z.ZO.call rfl rfl (by rfl) rfl rfl Try.call10 rfl (ac_known _) ?_
    rintro v3_0 w3_0 ⟨rfl, hy⟩
    replace hs := hs.call hy
    clear hy
    try simp only [List.cons_append, List.nil_append, List.append_nil] at hs
    refine Z.lb 1 rfl ?_
    refine Z.lnil ?_
    refine Z.only [12] rfl ?_
    refine Z.nthen ?_
    refine Z.ret ?_
    repeat (first | refine Z.rthen ?_ | refine Z.rblock ?_ | refine Z.rscope ?_)
    -- ret#0
    refine Z.out1 (by exact ⟨rfl, trivial⟩) ?_
    first | exact ⟨_, rfl, rfl, hs⟩ | exact ⟨_, rfl, rfl, hs.sub (List.nil_sublist _)⟩
theorem rd_cfg27 {W : World} {cs : List Value} (z : Rd Try.prog W 24 cs) : ∃ i r n c x : Int, cs = [.int .u64 i, .int .i64 r, .int .i64 n, .int .i64 c, .int .i64 x] ∧ (0 ≤ i ∧ i ≤ 18446744073709551615) := by
  obtain ⟨hl, hf⟩ := Rd.field Try.underlying24 z
  have c5 : Try.prog.cellsOf 24 = 5 := by kernel_rfl
  have c1 : Try.prog.cellsOf 3 = 1 := by kernel_rfl
  have c2 : Try.prog.cellsOf 22 = 1 := by kernel_rfl
  rw [c5] at hl
  obtain ⟨x0, x1, x2, x3, x4, rfl⟩ := list5 hl
  obtain ⟨a, ha, wa⟩ := Rd.int Try.underlying22 (hf 0 _ rfl)
  obtain ⟨b, hb, -⟩ := Rd.int Try.underlying3 (hf 1 _ rfl)
  obtain ⟨p, hp, -⟩ := Rd.int Try.underlying3 (hf 2 _ rfl)
  obtain ⟨q, hq, -⟩ := Rd.int Try.underlying3 (hf 3 _ rfl)
  obtain ⟨s, hs, -⟩ := Rd.int Try.underlying3 (hf 4 _ rfl)
  simp [c1, c2] at ha hb hp hq hs
  subst ha hb hp hq hs
  exact ⟨a, b, p, q, s, rfl, wf_u64 wa⟩
theorem accessWins_rd (cs0 : Array Value) (a1 a2 a3 a4 a5 : Int) (w : World) (z0 : Rd Try.prog w 24 (Value.agg cs0).cells.toList) (z1 : Rd Try.prog w 3 (Value.int .i64 a1).cells.toList) (z2 : Rd Try.prog w 3 (Value.int .i64 a2).cells.toList) (z3 : Rd Try.prog w 3 (Value.int .i64 a3).cells.toList) (z4 : Rd Try.prog w 3 (Value.int .i64 a4).cells.toList) (z5 : Rd Try.prog w 3 (Value.int .i64 a5).cells.toList) :
    Calls Try.prog 3 #[.agg cs0, .int .i64 a1, .int .i64 a2, .int .i64 a3, .int .i64 a4, .int .i64 a5] w fun e w' => e = .returned (.bool true) ∧ Below w.heap.size w w' := by
  obtain ⟨i, r, n, c, x, hr, hi⟩ := rd_cfg27 z0
  have e : cs0 = #[.int .u64 i, .int .i64 r, .int .i64 n, .int .i64 c, .int .i64 x] := by
    have : cs0.toList = [.int .u64 i, .int .i64 r, .int .i64 n, .int .i64 c, .int .i64 x] := by simpa [Value.cells] using hr
    exact Array.toList_inj.1 this
  rw [e]
  refine (accessWins_walk i r n c x a1 a2 a3 a4 a5 w hi.1).mono ?_
  rintro e w' ⟨v, rfl, rfl, h⟩
  exact ⟨rfl, h.below⟩
end Go.Proofs.Ytjgfooakcljddaa
