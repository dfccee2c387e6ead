/- Part 6 of the proofs that lead to the statement. -/
import Derived.Test.YtjgfooakcljddaaY5
import Derived.SizedLaws
/- Random access of a handset: what can be seen agrees; one step. -/
namespace Go.Proofs.Ytjgfooakcljddaa
open Go.RowKit
set_option linter.unusedSimpArgs false
set_option linter.unusedVariables false
--newlaws

theorem AcV.ok.start {m : AcV} (h : m.ok) (t : Int) : (startV m t).1.ok := by
  unfold startV
  split
  · rename_i ht
    obtain ⟨h1, h2, h3, h4, h5, h6, h7, h8, h9, h10⟩ := h.tick ht
    split
    · exact ⟨h1, by simp only; omega, h3, by simp only; omega, h5, h6, by simp only; have := h1.2.2.2.2; omega, by simp only; omega, h9, fun _ => by simp only; have := h1.2.2.2.2; omega⟩
    · exact ⟨h1, h2, h3, h4, h5, h6, h7, h8, h9, h10⟩
  · exact h
theorem AcV.ok.send {m : AcV} (h : m.ok) (t d : Int) : (sendV m t d).1.ok := by
  unfold sendV
  split
  · rename_i ht
    have hk := h.tick ht.1
    split
    · rename_i h0
      split
      · exact hk
      · obtain ⟨h1, h2, h3, h4, h5, h6, h7, h8, h9, h10⟩ := hk
        have hw := h1.2.2.1
        have hg := h10 h0
        exact ⟨h1, by simp only; omega, h3, by simp only; omega, by simp only; omega, by simp only; omega, by simp only; omega, h8, h9, fun h => by simp at h⟩
    · exact hk
  · exact h
theorem AcV.ok.answer {m : AcV} (h : m.ok) (t p r k : Int) : (answerV m t p r k).1.ok := by
  unfold answerV
  split
  · rename_i ht
    have hk := h.tick ht.1
    have hr := ht.2
    unfold okR at hr
    split
    · split
      · split
        · exact (hk.bound hr.2.2).fail
        · obtain ⟨h1, h2, h3, h4, h5, h6, h7, h8, h9, h10⟩ := hk
          have hw := h1.2.2.2.1
          exact ⟨h1, by simp only; omega, h3, by simp only; omega, h5, h6, h7, h8, by simp only; omega, fun h => by simp at h⟩
      · exact hk
    · exact hk
  · exact h
theorem AcV.ok.resolve {m : AcV} (h : m.ok) (t lc : Int) (l : List Int) : (resolveV m t lc l).1.ok := by
  unfold resolveV
  split
  · rename_i ht
    have hk := h.tick ht
    split
    · split
      · split
        · obtain ⟨h1, h2, h3, h4, h5, h6, h7, h8, h9, h10⟩ := hk
          exact ⟨h1, by simp only; omega, h3, by simp only; omega, h5, h6, h7, h8, h9, fun h => by simp at h⟩
        · exact hk.fail
      · exact hk
    · exact h
  · exact h
theorem AcV.ok.tickR {m : AcV} (h : m.ok) (t : Int) : (Go.Proofs.Ytjgfooakcljddaa.tickR m t).ok := by
  unfold Go.Proofs.Ytjgfooakcljddaa.tickR
  split
  · rename_i ht; exact h.tick ht
  · exact h
theorem ac_Message3 (g : Nat) (m : AcV) (w : World) (hc : Cel w g m.cells) (hf : m.cfg) (h3 : m.st = 3) :
    Calls Try.prog 15 #[.pointer (some ⟨g, 0, none⟩)] w (SX.Ret fun v w' => ∃ u, v = .tuple #[u, .int .i64 0] ∧ OwnPt (msgC m) (msgL m) u w w') := by
  have h := ac_Message g m w hc hf
  simpa only [if_pos h3] using h
theorem ac_MessageN (g : Nat) (m : AcV) (w : World) (hc : Cel w g m.cells) (hf : m.cfg) (h3 : ¬ m.st = 3) :
    Calls Try.prog 15 #[.pointer (some ⟨g, 0, none⟩)] w (SX.Ret fun v w' => v = .tuple #[.agg #[.int .i64 0, .slice none 0 0], .int .i64 8] ∧ SX.St w [] w' []) := by
  have h := ac_Message g m w hc hf
  simpa only [if_neg h3] using h
set_option maxHeartbeats 1000000 in
theorem ac_agrees (g : Nat) (m : AcV) (w : World) (hc : Cel w g m.cells) (hf : m.cfg) :
    Calls Try.prog 21 #[.pointer (some ⟨g, 0, none⟩), .agg m.cells.toArray] w (SX.Ret fun v w' => v = .bool true ∧ SX.St w [] w' []) := by
  have hs := SX.St.start w
  show Calls Try.prog 21 #[.pointer (some ⟨g, 0, none⟩), .agg #[.int .u64 (m).id, .int .i64 (m).rnt, .int .i64 (m).win, .int .i64 (m).con, .int .i64 (m).max, .int .i64 (m).st, .int .i64 (m).now, .int .i64 (m).due, .int .i64 (m).frm, .int .i64 (m).pre, .int .i64 (m).att, .int .i64 (m).bnd, .int .i64 (m).rn]] w _
  have hml := msgL_len m
  have hmb := msgL_by m
  by_cases h3 : m.st = 3
  · skip
    refine Z.enter Try.func21 rfl Try.ntmps21 rfl rfl ?_
    refine Z.seq ?_
    refine Z.region ?_
    refine Z.le rfl trivial ?_
    refine Z.ZO.box rfl rfl (by rfl) rfl rfl hs ?_
    clear hs; intro g3 w3 hs
    refine Z.lb 1 rfl ?_
    refine Z.lnil ?_
    refine Z.only [0, 3] rfl ?_
    refine Z.nthen ?_
    refine Z.seq ?_
    refine Z.seq ?_
    refine Z.drawK (fun _ => true) mixed hs ?_
    clear hs; intro wd1 hs
    refine Z.tb [0] (by kernel_rfl) rfl ⟨_, hs, by first | (simp; done) | exact fun e he => List.mem_append_right _ he⟩ rfl ?_
    refine Z.t 2 rfl rfl rfl (by rfl) (by kernel_rfl) ⟨_, hs, by first | (simp; done) | exact fun e he => List.mem_append_right _ he⟩ (Z.Yd.fieldA (m := 5) rfl (by kernel_rfl)) ?_
    refine Z.t 3 rfl rfl rfl (by rfl) (by kernel_rfl) ⟨_, hs, by first | (simp; done) | exact fun e he => List.mem_append_right _ he⟩ (by first | exact Z.Yd.load rfl Try.isAgg44 (fun _ => Z.cellB (by first | ((repeat (first | exact List.mem_cons_self | refine List.mem_cons_of_mem _ ?_ | refine List.mem_append_right _ ?_)); done) | fail) rfl) | exact Z.Yd.load rfl Try.isAgg44 (fun _ => Z.cellO (by assumption) (by simp) (by assumption)) | fail "load 1.3") ?_
    refine Z.tn 1 rfl rfl (by kernel_rfl) rfl trivial ?_
    refine Z.ZO.call rfl rfl (by rfl) rfl rfl Try.call17 rfl (ac_State g m _ (hc.st (hs.sub (List.nil_sublist _))) hf) ?_
    rintro v1_1 w1_1 ⟨rfl, hy⟩
    replace hs := hs.call hy
    clear hy
    try simp only [List.cons_append, List.nil_append, List.append_nil] at hs
    refine Z.tk (Dn := fun _ => true) (i := 1) (fun _ => ⟨_, hs, by first | (simp; done) | exact fun e he => List.mem_append_right _ he⟩) ?_
    refine Z.tb [4, 5, 6] (by kernel_rfl) rfl ⟨_, hs, by first | (simp; done) | exact fun e he => List.mem_append_right _ he⟩ rfl ?_
    refine Z.t 8 rfl rfl rfl (by rfl) (by kernel_rfl) ⟨_, hs, by first | (simp; done) | exact fun e he => List.mem_append_right _ he⟩ (Z.Yd.fieldA (m := 7) rfl (by kernel_rfl)) ?_
    refine Z.t 9 rfl rfl rfl (by rfl) (by kernel_rfl) ⟨_, hs, by first | (simp; done) | exact fun e he => List.mem_append_right _ he⟩ (by first | exact Z.Yd.load rfl Try.isAgg3 (fun _ => Z.cellB (by first | ((repeat (first | exact List.mem_cons_self | refine List.mem_cons_of_mem _ ?_ | refine List.mem_append_right _ ?_)); done) | fail) rfl) | exact Z.Yd.load rfl Try.isAgg3 (fun _ => Z.cellO (by assumption) (by simp) (by assumption)) | fail "load 1.9") ?_
    refine Z.yes (s := 12) (b := false) rfl (by simp) rfl ?_
    refine Z.tn 7 rfl rfl (by kernel_rfl) rfl (by exact ⟨rfl, trivial⟩) ?_
    refine Z.ZO.call rfl rfl (by rfl) rfl rfl Try.call18 rfl (ac_Due g m _ (hc.st (hs.sub (List.nil_sublist _))) hf) ?_
    rintro v1_7 w1_7 ⟨rfl, hy⟩
    replace hs := hs.call hy
    clear hy
    try simp only [List.cons_append, List.nil_append, List.append_nil] at hs
    refine Z.tk (Dn := fun _ => true) (i := 7) (fun _ => ⟨_, hs, by first | (simp; done) | exact fun e he => List.mem_append_right _ he⟩) ?_
    refine Z.tb [10, 11, 12, 13] (by kernel_rfl) rfl ⟨_, hs, by first | (simp; done) | exact fun e he => List.mem_append_right _ he⟩ rfl ?_
    refine Z.t 15 rfl rfl rfl (by rfl) (by kernel_rfl) ⟨_, hs, by first | (simp; done) | exact fun e he => List.mem_append_right _ he⟩ (Z.Yd.fieldA (m := 10) rfl (by kernel_rfl)) ?_
    refine Z.t 16 rfl rfl rfl (by rfl) (by kernel_rfl) ⟨_, hs, by first | (simp; done) | exact fun e he => List.mem_append_right _ he⟩ (by first | exact Z.Yd.load rfl Try.isAgg3 (fun _ => Z.cellB (by first | ((repeat (first | exact List.mem_cons_self | refine List.mem_cons_of_mem _ ?_ | refine List.mem_append_right _ ?_)); done) | fail) rfl) | exact Z.Yd.load rfl Try.isAgg3 (fun _ => Z.cellO (by assumption) (by simp) (by assumption)) | fail "load 1.16") ?_
    refine Z.yes (s := 19) (b := false) rfl (by simp) rfl ?_
    refine Z.tn 14 rfl rfl (by kernel_rfl) rfl (by exact ⟨rfl, trivial⟩) ?_
    refine Z.ZO.call rfl rfl (by rfl) rfl rfl Try.call23 rfl (ac_Attempts g m _ (hc.st (hs.sub (List.nil_sublist _))) hf) ?_
    rintro v1_14 w1_14 ⟨rfl, hy⟩
    replace hs := hs.call hy
    clear hy
    try simp only [List.cons_append, List.nil_append, List.append_nil] at hs
    refine Z.tk (Dn := fun _ => true) (i := 14) (fun _ => ⟨_, hs, by first | (simp; done) | exact fun e he => List.mem_append_right _ he⟩) ?_
    refine Z.tb [17, 18, 19, 20] (by kernel_rfl) rfl ⟨_, hs, by first | (simp; done) | exact fun e he => List.mem_append_right _ he⟩ rfl ?_
    refine Z.t 22 rfl rfl rfl (by rfl) (by kernel_rfl) ⟨_, hs, by first | (simp; done) | exact fun e he => List.mem_append_right _ he⟩ (by first | exact Z.Yd.loadA _ rfl Try.isAgg51 (fun _ => Z.cellsB (by first | ((repeat (first | exact List.mem_cons_self | refine List.mem_cons_of_mem _ ?_ | refine List.mem_append_right _ ?_)); done) | fail)) (by exact Try.sizeOf51) | fail "load 1.22") ?_
    refine Z.yes (s := 26) (b := false) rfl (by simp) rfl ?_
    refine Z.tn 21 rfl rfl (by kernel_rfl) rfl (by exact ⟨rfl, trivial⟩) ?_
    refine Z.ZO.call rfl rfl (by rfl) rfl rfl Try.call14 rfl (ac_RNTI g m _ (hc.st (hs.sub (List.nil_sublist _))) hf) ?_
    rintro v1_21 w1_21 ⟨rfl, hy⟩
    replace hs := hs.call hy
    clear hy
    try simp only [List.cons_append, List.nil_append, List.append_nil] at hs
    refine Z.tk (Dn := fun _ => true) (i := 21) (fun _ => ⟨_, hs, by first | (simp; done) | exact fun e he => List.mem_append_right _ he⟩) ?_
    refine Z.tn 23 rfl rfl (by kernel_rfl) rfl (by exact ⟨rfl, trivial⟩) ?_
    refine Z.ZO.call rfl rfl (by rfl) rfl rfl Try.call41 rfl (acr_use m _ hf) ?_
    rintro v1_23 w1_23 ⟨rfl, hy⟩
    replace hs := hs.call hy
    clear hy
    try simp only [List.cons_append, List.nil_append, List.append_nil] at hs
    refine Z.tk (Dn := fun _ => true) (i := 23) (fun _ => ⟨_, hs, by first | (simp; done) | exact fun e he => List.mem_append_right _ he⟩) ?_
    refine Z.tb [24, 25] (by kernel_rfl) rfl ⟨_, hs, by first | (simp; done) | exact fun e he => List.mem_append_right _ he⟩ rfl ?_
    refine Z.td (by rfl) (by kernel_rfl) ?_
    refine Z.only [0, 3, 32] rfl ?_
    refine Z.nthen ?_
    refine Z.cond rfl (fun h => absurd h (by simp)) (fun hc1 => ?_)
    refine Z.skip ?_
    refine Z.nthen ?_
    refine Z.seq ?_
    refine Z.region ?_
    refine Z.lb 1 rfl ?_
    refine Z.le rfl trivial ?_
    refine Z.ZO.call rfl rfl (by rfl) rfl rfl Try.call15 rfl (ac_Message3 g m _ (hc.st (hs.sub (List.nil_sublist _))) hf h3) ?_
    rintro v3_1 w3_1 ⟨u, rfl, B, cc, co, rfl, hy⟩
    replace hs := hs.call hy
    clear hy
    try simp only [List.cons_append, List.nil_append, List.append_nil] at hs
    refine Z.lb 3 rfl ?_
    refine Z.le rfl trivial ?_
    refine Z.ZO.alloc rfl rfl (by rfl) Try.zeroValue40 rfl hs ?_
    clear hs; intro g5 w5 hs
    refine Z.le rfl trivial ?_
    first | refine Z.ZO.storeA rfl rfl hs rfl rfl (by kernel_rfl) (by first | (simp [Value.oneCell']; done) | (refine Z.all_one ?_; assumption)) (by first | exact SX.at0 | exact SX.at1 | exact SX.at2 | exact SX.at3 | exact SX.at4 | exact SX.at5 | exact Z.at6 | exact Z.at7 | exact Z.at8 | exact Z.at9 | exact Z.at10 | exact Z.at11 | exact Z.at12) (by rfl) ?_ | refine Z.ZO.storeP rfl rfl hs rfl rfl (by kernel_rfl) (by first | (simp [Value.oneCell']; done) | (refine Z.all_one ?_; assumption)) (by first | exact SX.at0 | exact SX.at1 | exact SX.at2 | exact SX.at3 | exact SX.at4 | exact SX.at5 | exact Z.at6 | exact Z.at7 | exact Z.at8 | exact Z.at9 | exact Z.at10 | exact Z.at11 | exact Z.at12) (by first | decide | (simp; done) | (simp; omega)) ?_ | refine Z.ZO.storePR rfl rfl hs rfl rfl (by kernel_rfl) (by first | (simp [Value.oneCell']; done) | (refine Z.all_one ?_; assumption)) (by first | exact SX.at0 | exact SX.at1 | exact SX.at2 | exact SX.at3 | exact SX.at4 | exact SX.at5 | exact Z.at6 | exact Z.at7 | exact Z.at8 | exact Z.at9 | exact Z.at10 | exact Z.at11 | exact Z.at12) (by first | decide | (simp; done) | (simp; omega)) ?_
    clear hs; intro ws hs
    simp only [Nat.zero_add, Nat.add_zero, Nat.reduceAdd, Int.reduceToNat, Nat.reduceMul, List.set_cons_zero, List.set_cons_succ, List.setIfInBounds_toArray] at hs
    try simp only [Z.putL, Nat.zero_add] at hs
    refine Z.lb 1 rfl ?_
    refine Z.lnil ?_
    refine Z.only [3, 5, 6] rfl ?_
    refine Z.nthen ?_
    refine Z.seq ?_
    refine Z.seq ?_
    refine Z.region ?_
    refine Z.l rfl rfl (by rfl) (Z.keepS hs) (Z.Yd.fieldA (m := 5) rfl (by kernel_rfl)) ?_
    refine Z.l rfl rfl (by rfl) (Z.keepS hs) (by first | exact Z.Yd.load rfl Try.isAgg44 (fun _ => Z.cellB (by first | ((repeat (first | exact List.mem_cons_self | refine List.mem_cons_of_mem _ ?_ | refine List.mem_append_right _ ?_)); done) | fail) rfl) | exact Z.Yd.load rfl Try.isAgg44 (fun _ => Z.cellO (by assumption) (by simp) (by assumption)) | fail "load 4.1") ?_
    refine Z.lb 1 rfl ?_
    refine Z.lnil ?_
    refine Z.only [3, 5, 6, 40] rfl ?_
    refine Z.nthen ?_
    refine Z.cond rfl (fun h => absurd h (by simp [h3])) (fun hc4 => ?_)
    refine Z.skip ?_
    refine Z.nthen ?_
    refine Z.seq ?_
    refine Z.drawK (fun _ => true) mixed hs ?_
    clear hs; intro wd6 hs
    refine Z.tb [0, 1, 2] (by kernel_rfl) rfl ⟨_, hs, by first | (simp; done) | exact fun e he => List.mem_append_right _ he⟩ rfl ?_
    refine Z.t 3 rfl rfl rfl (by rfl) (by kernel_rfl) ⟨_, hs, by first | (simp; done) | exact fun e he => List.mem_append_right _ he⟩ (by first | exact Z.Yd.loadA _ rfl Try.isAgg40 (fun _ => Z.cellsB (by first | ((repeat (first | exact List.mem_cons_self | refine List.mem_cons_of_mem _ ?_ | refine List.mem_append_right _ ?_)); done) | fail)) (by exact Try.sizeOf40) | fail "load 6.3") ?_
    refine Z.t 4 rfl rfl rfl (by rfl) (by kernel_rfl) ⟨_, hs, by first | (simp; done) | exact fun e he => List.mem_append_right _ he⟩ (by first | exact Z.Yd.loadA _ rfl Try.isAgg51 (fun _ => Z.cellsB (by first | ((repeat (first | exact List.mem_cons_self | refine List.mem_cons_of_mem _ ?_ | refine List.mem_append_right _ ?_)); done) | fail)) (by exact Try.sizeOf51) | fail "load 6.4") ?_
    refine Z.yes (s := 50) (b := true) rfl (by simp) rfl ?_
    refine Z.tn 5 rfl rfl (by kernel_rfl) rfl (by exact ⟨rfl, trivial⟩) ?_
    refine Z.ZO.call rfl rfl (by rfl) rfl rfl Try.call42 rfl (acr_message m _ hf) ?_
    rintro v6_5 w6_5 ⟨B2, cc2, co2, rfl, hy⟩
    replace hs := hs.call hy
    clear hy
    try simp only [List.cons_append, List.nil_append, List.append_nil] at hs
    refine Z.tk (Dn := fun _ => true) (i := 5) (fun _ => ⟨_, hs, by first | (simp; done) | exact fun e he => List.mem_append_right _ he⟩) ?_
    refine Z.tn 6 rfl rfl (by kernel_rfl) rfl (by exact ⟨rfl, trivial⟩) ?_
    refine Z.ZO.call rfl rfl (by rfl) rfl rfl Try.call26 rfl (acr_same (msgC m) (msgC m) B B2 _ _ _ _ (msgL m) (msgL m) _ (hs.slm (A := B) (by first | ((repeat (first | exact List.mem_cons_self | refine List.mem_cons_of_mem _ ?_ | refine List.mem_append_right _ ?_)); done) | fail)) (hs.slm (A := B2) (by first | ((repeat (first | exact List.mem_cons_self | refine List.mem_cons_of_mem _ ?_ | refine List.mem_append_right _ ?_)); done) | fail)) rfl rfl hmb hmb) ?_
    rintro v6_6 w6_6 ⟨rfl, hy⟩
    replace hs := hs.call hy
    clear hy
    try simp only [List.cons_append, List.nil_append, List.append_nil] at hs
    refine Z.tk (Dn := fun _ => true) (i := 6) (fun _ => ⟨_, hs, by first | (simp; done) | exact fun e he => List.mem_append_right _ he⟩) ?_
    refine Z.tb [7, 8] (by kernel_rfl) rfl ⟨_, hs, by first | (simp; done) | exact fun e he => List.mem_append_right _ he⟩ rfl ?_
    refine Z.td (by rfl) (by kernel_rfl) ?_
    refine Z.only [4] rfl ?_
    refine Z.nthen ?_
    refine Z.ret ?_
    -- ret#0
    refine Z.out1 (by exact ⟨rfl, trivial⟩) ?_
    exact ⟨_, rfl, by simp, hs.sub (List.nil_sublist _)⟩
  · skip
    refine Z.enter Try.func21 rfl Try.ntmps21 rfl rfl ?_
    refine Z.seq ?_
    refine Z.region ?_
    refine Z.le rfl trivial ?_
    refine Z.ZO.box rfl rfl (by rfl) rfl rfl hs ?_
    clear hs; intro g3 w3 hs
    refine Z.lb 1 rfl ?_
    refine Z.lnil ?_
    refine Z.only [0, 3] rfl ?_
    refine Z.nthen ?_
    refine Z.seq ?_
    refine Z.seq ?_
    refine Z.drawK (fun _ => true) mixed hs ?_
    clear hs; intro wd1 hs
    refine Z.tb [0] (by kernel_rfl) rfl ⟨_, hs, by first | (simp; done) | exact fun e he => List.mem_append_right _ he⟩ rfl ?_
    refine Z.t 2 rfl rfl rfl (by rfl) (by kernel_rfl) ⟨_, hs, by first | (simp; done) | exact fun e he => List.mem_append_right _ he⟩ (Z.Yd.fieldA (m := 5) rfl (by kernel_rfl)) ?_
    refine Z.t 3 rfl rfl rfl (by rfl) (by kernel_rfl) ⟨_, hs, by first | (simp; done) | exact fun e he => List.mem_append_right _ he⟩ (by first | exact Z.Yd.load rfl Try.isAgg44 (fun _ => Z.cellB (by first | ((repeat (first | exact List.mem_cons_self | refine List.mem_cons_of_mem _ ?_ | refine List.mem_append_right _ ?_)); done) | fail) rfl) | exact Z.Yd.load rfl Try.isAgg44 (fun _ => Z.cellO (by assumption) (by simp) (by assumption)) | fail "load 1.3") ?_
    refine Z.tn 1 rfl rfl (by kernel_rfl) rfl trivial ?_
    refine Z.ZO.call rfl rfl (by rfl) rfl rfl Try.call17 rfl (ac_State g m _ (hc.st (hs.sub (List.nil_sublist _))) hf) ?_
    rintro v1_1 w1_1 ⟨rfl, hy⟩
    replace hs := hs.call hy
    clear hy
    try simp only [List.cons_append, List.nil_append, List.append_nil] at hs
    refine Z.tk (Dn := fun _ => true) (i := 1) (fun _ => ⟨_, hs, by first | (simp; done) | exact fun e he => List.mem_append_right _ he⟩) ?_
    refine Z.tb [4, 5, 6] (by kernel_rfl) rfl ⟨_, hs, by first | (simp; done) | exact fun e he => List.mem_append_right _ he⟩ rfl ?_
    refine Z.t 8 rfl rfl rfl (by rfl) (by kernel_rfl) ⟨_, hs, by first | (simp; done) | exact fun e he => List.mem_append_right _ he⟩ (Z.Yd.fieldA (m := 7) rfl (by kernel_rfl)) ?_
    refine Z.t 9 rfl rfl rfl (by rfl) (by kernel_rfl) ⟨_, hs, by first | (simp; done) | exact fun e he => List.mem_append_right _ he⟩ (by first | exact Z.Yd.load rfl Try.isAgg3 (fun _ => Z.cellB (by first | ((repeat (first | exact List.mem_cons_self | refine List.mem_cons_of_mem _ ?_ | refine List.mem_append_right _ ?_)); done) | fail) rfl) | exact Z.Yd.load rfl Try.isAgg3 (fun _ => Z.cellO (by assumption) (by simp) (by assumption)) | fail "load 1.9") ?_
    refine Z.yes (s := 12) (b := false) rfl (by simp) rfl ?_
    refine Z.tn 7 rfl rfl (by kernel_rfl) rfl (by exact ⟨rfl, trivial⟩) ?_
    refine Z.ZO.call rfl rfl (by rfl) rfl rfl Try.call18 rfl (ac_Due g m _ (hc.st (hs.sub (List.nil_sublist _))) hf) ?_
    rintro v1_7 w1_7 ⟨rfl, hy⟩
    replace hs := hs.call hy
    clear hy
    try simp only [List.cons_append, List.nil_append, List.append_nil] at hs
    refine Z.tk (Dn := fun _ => true) (i := 7) (fun _ => ⟨_, hs, by first | (simp; done) | exact fun e he => List.mem_append_right _ he⟩) ?_
    refine Z.tb [10, 11, 12, 13] (by kernel_rfl) rfl ⟨_, hs, by first | (simp; done) | exact fun e he => List.mem_append_right _ he⟩ rfl ?_
    refine Z.t 15 rfl rfl rfl (by rfl) (by kernel_rfl) ⟨_, hs, by first | (simp; done) | exact fun e he => List.mem_append_right _ he⟩ (Z.Yd.fieldA (m := 10) rfl (by kernel_rfl)) ?_
    refine Z.t 16 rfl rfl rfl (by rfl) (by kernel_rfl) ⟨_, hs, by first | (simp; done) | exact fun e he => List.mem_append_right _ he⟩ (by first | exact Z.Yd.load rfl Try.isAgg3 (fun _ => Z.cellB (by first | ((repeat (first | exact List.mem_cons_self | refine List.mem_cons_of_mem _ ?_ | refine List.mem_append_right _ ?_)); done) | fail) rfl) | exact Z.Yd.load rfl Try.isAgg3 (fun _ => Z.cellO (by assumption) (by simp) (by assumption)) | fail "load 1.16") ?_
    refine Z.yes (s := 19) (b := false) rfl (by simp) rfl ?_
    refine Z.tn 14 rfl rfl (by kernel_rfl) rfl (by exact ⟨rfl, trivial⟩) ?_
    refine Z.ZO.call rfl rfl (by rfl) rfl rfl Try.call23 rfl (ac_Attempts g m _ (hc.st (hs.sub (List.nil_sublist _))) hf) ?_
    rintro v1_14 w1_14 ⟨rfl, hy⟩
    replace hs := hs.call hy
    clear hy
    try simp only [List.cons_append, List.nil_append, List.append_nil] at hs
    refine Z.tk (Dn := fun _ => true) (i := 14) (fun _ => ⟨_, hs, by first | (simp; done) | exact fun e he => List.mem_append_right _ he⟩) ?_
    refine Z.tb [17, 18, 19, 20] (by kernel_rfl) rfl ⟨_, hs, by first | (simp; done) | exact fun e he => List.mem_append_right _ he⟩ rfl ?_
    refine Z.t 22 rfl rfl rfl (by rfl) (by kernel_rfl) ⟨_, hs, by first | (simp; done) | exact fun e he => List.mem_append_right _ he⟩ (by first | exact Z.Yd.loadA _ rfl Try.isAgg51 (fun _ => Z.cellsB (by first | ((repeat (first | exact List.mem_cons_self | refine List.mem_cons_of_mem _ ?_ | refine List.mem_append_right _ ?_)); done) | fail)) (by exact Try.sizeOf51) | fail "load 1.22") ?_
    refine Z.yes (s := 26) (b := false) rfl (by simp) rfl ?_
    refine Z.tn 21 rfl rfl (by kernel_rfl) rfl (by exact ⟨rfl, trivial⟩) ?_
    refine Z.ZO.call rfl rfl (by rfl) rfl rfl Try.call14 rfl (ac_RNTI g m _ (hc.st (hs.sub (List.nil_sublist _))) hf) ?_
    rintro v1_21 w1_21 ⟨rfl, hy⟩
    replace hs := hs.call hy
    clear hy
    try simp only [List.cons_append, List.nil_append, List.append_nil] at hs
    refine Z.tk (Dn := fun _ => true) (i := 21) (fun _ => ⟨_, hs, by first | (simp; done) | exact fun e he => List.mem_append_right _ he⟩) ?_
    refine Z.tn 23 rfl rfl (by kernel_rfl) rfl (by exact ⟨rfl, trivial⟩) ?_
    refine Z.ZO.call rfl rfl (by rfl) rfl rfl Try.call41 rfl (acr_use m _ hf) ?_
    rintro v1_23 w1_23 ⟨rfl, hy⟩
    replace hs := hs.call hy
    clear hy
    try simp only [List.cons_append, List.nil_append, List.append_nil] at hs
    refine Z.tk (Dn := fun _ => true) (i := 23) (fun _ => ⟨_, hs, by first | (simp; done) | exact fun e he => List.mem_append_right _ he⟩) ?_
    refine Z.tb [24, 25] (by kernel_rfl) rfl ⟨_, hs, by first | (simp; done) | exact fun e he => List.mem_append_right _ he⟩ rfl ?_
    refine Z.td (by rfl) (by kernel_rfl) ?_
    refine Z.only [0, 3, 32] rfl ?_
    refine Z.nthen ?_
    refine Z.cond rfl (fun h => absurd h (by simp)) (fun hc1 => ?_)
    refine Z.skip ?_
    refine Z.nthen ?_
    refine Z.seq ?_
    refine Z.region ?_
    refine Z.lb 1 rfl ?_
    refine Z.le rfl trivial ?_
    refine Z.ZO.call rfl rfl (by rfl) rfl rfl Try.call15 rfl (ac_MessageN g m _ (hc.st (hs.sub (List.nil_sublist _))) hf h3) ?_
    rintro v3_1 w3_1 ⟨rfl, hy⟩
    replace hs := hs.call hy
    clear hy
    try simp only [List.cons_append, List.nil_append, List.append_nil] at hs
    refine Z.lb 3 rfl ?_
    refine Z.le rfl trivial ?_
    refine Z.ZO.alloc rfl rfl (by rfl) Try.zeroValue40 rfl hs ?_
    clear hs; intro g5 w5 hs
    refine Z.le rfl trivial ?_
    first | refine Z.ZO.storeA rfl rfl hs rfl rfl (by kernel_rfl) (by first | (simp [Value.oneCell']; done) | (refine Z.all_one ?_; assumption)) (by first | exact SX.at0 | exact SX.at1 | exact SX.at2 | exact SX.at3 | exact SX.at4 | exact SX.at5 | exact Z.at6 | exact Z.at7 | exact Z.at8 | exact Z.at9 | exact Z.at10 | exact Z.at11 | exact Z.at12) (by rfl) ?_ | refine Z.ZO.storeP rfl rfl hs rfl rfl (by kernel_rfl) (by first | (simp [Value.oneCell']; done) | (refine Z.all_one ?_; assumption)) (by first | exact SX.at0 | exact SX.at1 | exact SX.at2 | exact SX.at3 | exact SX.at4 | exact SX.at5 | exact Z.at6 | exact Z.at7 | exact Z.at8 | exact Z.at9 | exact Z.at10 | exact Z.at11 | exact Z.at12) (by first | decide | (simp; done) | (simp; omega)) ?_ | refine Z.ZO.storePR rfl rfl hs rfl rfl (by kernel_rfl) (by first | (simp [Value.oneCell']; done) | (refine Z.all_one ?_; assumption)) (by first | exact SX.at0 | exact SX.at1 | exact SX.at2 | exact SX.at3 | exact SX.at4 | exact SX.at5 | exact Z.at6 | exact Z.at7 | exact Z.at8 | exact Z.at9 | exact Z.at10 | exact Z.at11 | exact Z.at12) (by first | decide | (simp; done) | (simp; omega)) ?_
    clear hs; intro ws hs
    simp only [Nat.zero_add, Nat.add_zero, Nat.reduceAdd, Int.reduceToNat, Nat.reduceMul, List.set_cons_zero, List.set_cons_succ, List.setIfInBounds_toArray] at hs
    try simp only [Z.putL, Nat.zero_add] at hs
    refine Z.lb 1 rfl ?_
    refine Z.lnil ?_
    refine Z.only [3, 5, 6] rfl ?_
    refine Z.nthen ?_
    refine Z.seq ?_
    refine Z.seq ?_
    refine Z.region ?_
    refine Z.l rfl rfl (by rfl) (Z.keepS hs) (Z.Yd.fieldA (m := 5) rfl (by kernel_rfl)) ?_
    refine Z.l rfl rfl (by rfl) (Z.keepS hs) (by first | exact Z.Yd.load rfl Try.isAgg44 (fun _ => Z.cellB (by first | ((repeat (first | exact List.mem_cons_self | refine List.mem_cons_of_mem _ ?_ | refine List.mem_append_right _ ?_)); done) | fail) rfl) | exact Z.Yd.load rfl Try.isAgg44 (fun _ => Z.cellO (by assumption) (by simp) (by assumption)) | fail "load 4.1") ?_
    refine Z.lb 1 rfl ?_
    refine Z.lnil ?_
    refine Z.only [3, 5, 6, 40] rfl ?_
    refine Z.nthen ?_
    refine Z.cond rfl (fun hc4 => ?_) (fun h => absurd h (by simp [h3]))
    refine Z.seq ?_
    refine Z.region ?_
    refine Z.lb 3 rfl ?_
    refine Z.yes (s := 43) (b := true) rfl ((by simp)) rfl ?_
    refine Z.l rfl rfl (by rfl) (Z.keepS hs) (by first | exact Z.Yd.loadA _ rfl Try.isAgg40 (fun _ => Z.cellsB (by first | ((repeat (first | exact List.mem_cons_self | refine List.mem_cons_of_mem _ ?_ | refine List.mem_append_right _ ?_)); done) | fail)) (by exact Try.sizeOf40) | fail "load 5.3") ?_
    refine Z.l rfl rfl (by rfl) (Z.keepS hs) (Z.Yd.buildL [(0, 1), (1, 1)] [.int .i64 0, .slice none 0 0] rfl rfl (by intro w; kernel_rfl)) ?_
    refine Z.yes (s := 43) (b := true) rfl rfl rfl ?_
    refine Z.le rfl (by exact ⟨rfl, trivial⟩) ?_
    refine Z.ZO.call rfl rfl (by rfl) rfl rfl Try.call26 rfl (acr_same 0 0 none none 0 0 0 0 [] [] _ sl_nil sl_nil rfl rfl (by simp) (by simp)) ?_
    rintro v5_5 w5_5 ⟨rfl, hy⟩
    replace hs := hs.call hy
    clear hy
    try simp only [List.cons_append, List.nil_append, List.append_nil] at hs
    refine Z.l rfl rfl (by rfl) (Z.keepS hs) (Z.Yd.pickT rfl rfl) ?_
    refine Z.lb 1 rfl ?_
    refine Z.lnil ?_
    refine Z.only [4] rfl ?_
    refine Z.nthen ?_
    refine Z.ret ?_
    repeat (first | refine Z.rthen ?_ | refine Z.rblock ?_ | refine Z.rscope ?_)
    -- ret#0
    refine Z.out1 (by exact ⟨rfl, trivial⟩) ?_
    exact ⟨_, rfl, by simp, hs.sub (List.nil_sublist _)⟩
structure AxV where
  k : Int
  t : Int
  d : Int
  p : Int
  r : Int
  b : Int
  lc : Int
  A : Option Addr
  c : Nat
  l : List Int
def AxV.cells (x : AxV) : List Value := [.int .i64 x.k, .int .i64 x.t, .int .i64 x.d, .int .i64 x.p, .int .i64 x.r, .int .i64 x.b, .int .i64 x.lc, .slice x.A x.l.length x.c]
theorem ax_one (x : AxV) : ∀ u ∈ x.cells, u.oneCell' = true := by intro u hu; simp [AxV.cells] at hu; rcases hu with rfl | rfl | rfl | rfl | rfl | rfl | rfl | rfl <;> rfl
structure GoodX (w : World) (M : List Nat) (x : AxV) : Prop where
  sx : Sx w M x.A (ints .u8 x.l)
  by8 : Byts x.l
  len : x.l.length ≤ 140737488351232
def doV (m : AcV) (x : AxV) : AcV :=
  if x.k = 0 then (startV m x.t).1 else if x.k = 1 then (sendV m x.t x.d).1 else if x.k = 2 then (answerV m x.t x.p x.r x.b).1
  else if x.k = 3 then (resolveV m x.t x.lc x.l).1 else if x.k = 5 then (resolveV m x.t (msgC m) (msgL m)).1 else if x.k = 4 then tickR m x.t else m
theorem AcV.ok.doV {m : AcV} (h : m.ok) (x : AxV) : (Go.Proofs.Ytjgfooakcljddaa.doV m x).ok := by
  unfold Go.Proofs.Ytjgfooakcljddaa.doV
  split
  · exact h.start _
  split
  · exact h.send _ _
  split
  · exact h.answer _ _ _ _
  split
  · exact h.resolve _ _ _
  split
  · exact h.resolve _ _ _
  split
  · exact h.tickR _
  · exact h
end Go.Proofs.Ytjgfooakcljddaa

/- Random access of a handset: a step of each kind, on both sides. -/
namespace Go.Proofs.Ytjgfooakcljddaa
open Go.RowKit
set_option linter.unusedSimpArgs false
set_option linter.unusedVariables false
--newlaws

set_option maxHeartbeats 1000000 in
set_option maxRecDepth 100000 in
theorem ac_do0 (g T : Nat) (m : AcV) (x : AxV) (w : World) (hs : SX.St w (SX.idsOf [SX.Ent.blk g T m.cells.toArray]) w [SX.Ent.blk g T m.cells.toArray]) (hm : m.ok) (hx : GoodX w (SX.idsOf [SX.Ent.blk g T m.cells.toArray]) x) (hk : x.k = 0) :
    Calls Try.prog 22 #[.pointer (some ⟨g, 0, none⟩), .agg m.cells.toArray, .agg x.cells.toArray] w (SX.Ret fun v w' => v = .tuple #[.agg ((startV m x.t).1).cells.toArray, .bool true] ∧ SX.St w (SX.idsOf [SX.Ent.blk g T m.cells.toArray]) w' [SX.Ent.blk g T ((startV m x.t).1).cells.toArray]) := by
  generalize hM : SX.idsOf [SX.Ent.blk g T m.cells.toArray] = M at *
  have hone0 := ac_one m
  have hone1 := ax_one x
  have hone := ac_one ((startV m x.t).1)
  refine Z.enter Try.func22 rfl Try.ntmps22 rfl rfl ?_
  refine Z.seq ?_
  refine Z.region ?_
  refine Z.le rfl trivial ?_
  refine Z.ZO.box rfl rfl (by rfl) rfl rfl hs ?_
  clear hs; intro g4 w4 hs
  refine Z.le rfl trivial ?_
  refine Z.ZO.box rfl rfl (by rfl) rfl rfl hs ?_
  clear hs; intro g5 w5 hs
  refine Z.le rfl trivial ?_
  refine Z.ZO.alloc rfl rfl (by rfl) Try.zeroValue51 rfl hs ?_
  clear hs; intro g6 w6 hs
  refine Z.lb 1 rfl ?_
  refine Z.lnil ?_
  refine Z.only [0, 4, 5, 6] rfl ?_
  refine Z.nthen ?_
  refine Z.seq ?_
  refine Z.seq ?_
  refine Z.region ?_
  refine Z.l rfl rfl (by rfl) (Z.keepS hs) (Z.Yd.fieldA (m := 0) rfl (by kernel_rfl)) ?_
  refine Z.l rfl rfl (by rfl) (Z.keepS hs) (Z.Yd.load rfl Try.isAgg3 (fun _ => Z.cellB (cs := x.cells.toArray) (by first | ((repeat (first | exact List.mem_cons_self | refine List.mem_cons_of_mem _ ?_ | refine List.mem_append_right _ ?_)); done) | fail) rfl)) ?_
  refine Z.lnil ?_
  refine Z.only [0, 4, 5, 6, 31] rfl ?_
  refine Z.nthen ?_
  refine Z.block ?_
  refine Z.seq ?_
  refine Z.region ?_
  refine Z.lb 2 rfl ?_
  refine Z.lnil ?_
  refine Z.only [0, 4, 5, 6, 31, 32] rfl ?_
  refine Z.nthen ?_
  refine Z.cond rfl (fun hc2 => ?_) (fun h => absurd h (by simp [hk]))
  refine Z.seq ?_
  refine Z.region ?_
  refine Z.lb 1 rfl ?_
  refine Z.l rfl rfl (by rfl) (Z.keepS hs) (Z.Yd.fieldA (m := 1) rfl (by kernel_rfl)) ?_
  refine Z.l rfl rfl (by rfl) (Z.keepS hs) (Z.Yd.load rfl Try.isAgg3 (fun _ => Z.cellB (cs := x.cells.toArray) (by first | ((repeat (first | exact List.mem_cons_self | refine List.mem_cons_of_mem _ ?_ | refine List.mem_append_right _ ?_)); done) | fail) rfl)) ?_
  replace hs : SX.St w M _ ([SX.Ent.blk g T m.cells.toArray] ++ [_, _, _]) := hs.sel [3, 0, 1, 2] (by decide)
  refine Z.le rfl trivial ?_
  refine Z.ZO.call rfl rfl (by rfl) rfl rfl Try.call11 rfl (ac_start g T m x.t _ hs.lend hm) ?_
  rintro v3_3 w3_3 ⟨rfl, hz⟩
  replace hs := hs.regain hz
  simp only [List.cons_append, List.nil_append] at hs
  refine Z.lb 1 rfl ?_
  refine Z.lnil ?_
  refine Z.only [0, 4, 5, 6, 8] rfl ?_
  refine Z.nthen ?_
  refine Z.seq ?_
  refine Z.region ?_
  refine Z.l rfl rfl (by rfl) (Z.keepS hs) (Z.Yd.loadA _ rfl Try.isAgg51 (fun _ => Z.cellsB (cs := m.cells) (by first | ((repeat (first | exact List.mem_cons_self | refine List.mem_cons_of_mem _ ?_ | refine List.mem_append_right _ ?_)); done) | fail)) (by exact Try.sizeOf51)) ?_
  refine Z.l rfl rfl (by rfl) (Z.keepS hs) (Z.Yd.fieldA (m := 1) rfl (by kernel_rfl)) ?_
  refine Z.l rfl rfl (by rfl) (Z.keepS hs) (Z.Yd.load rfl Try.isAgg3 (fun _ => Z.cellB (cs := x.cells.toArray) (by first | ((repeat (first | exact List.mem_cons_self | refine List.mem_cons_of_mem _ ?_ | refine List.mem_append_right _ ?_)); done) | fail) rfl)) ?_
  refine Z.le rfl trivial ?_
  refine Z.ZO.call rfl rfl (by rfl) rfl rfl Try.call43 rfl (acr_start m x.t _ hm) ?_
  rintro v4_3 w4_3 ⟨rfl, hy⟩
  replace hs := hs.call hy
  clear hy
  try simp only [List.cons_append, List.nil_append, List.append_nil] at hs
  refine Z.lb 3 rfl ?_
  refine Z.le rfl trivial ?_
  refine Z.ZO.alloc rfl rfl (by rfl) Try.zeroValue51 rfl hs ?_
  clear hs; intro g9 w9 hs
  refine Z.le rfl trivial ?_
  first | refine Z.ZO.storeA rfl rfl hs rfl rfl (by kernel_rfl) (by first | (simp [Value.oneCell']; done) | (refine Z.all_one ?_; assumption)) (by first | exact SX.at0 | exact SX.at1 | exact SX.at2 | exact SX.at3 | exact SX.at4 | exact SX.at5 | exact Z.at6 | exact Z.at7 | exact Z.at8 | exact Z.at9 | exact Z.at10 | exact Z.at11 | exact Z.at12) (by rfl) ?_ | refine Z.ZO.storeP rfl rfl hs rfl rfl (by kernel_rfl) (by first | (simp [Value.oneCell']; done) | (refine Z.all_one ?_; assumption)) (by first | exact SX.at0 | exact SX.at1 | exact SX.at2 | exact SX.at3 | exact SX.at4 | exact SX.at5 | exact Z.at6 | exact Z.at7 | exact Z.at8 | exact Z.at9 | exact Z.at10 | exact Z.at11 | exact Z.at12) (by first | decide | (simp; done) | (simp; omega)) ?_ | refine Z.ZO.storePR rfl rfl hs rfl rfl (by kernel_rfl) (by first | (simp [Value.oneCell']; done) | (refine Z.all_one ?_; assumption)) (by first | exact SX.at0 | exact SX.at1 | exact SX.at2 | exact SX.at3 | exact SX.at4 | exact SX.at5 | exact Z.at6 | exact Z.at7 | exact Z.at8 | exact Z.at9 | exact Z.at10 | exact Z.at11 | exact Z.at12) (by first | decide | (simp; done) | (simp; omega)) ?_
  clear hs; intro ws hs
  simp only [Nat.zero_add, Nat.add_zero, Nat.reduceAdd, Int.reduceToNat, Nat.reduceMul, List.set_cons_zero, List.set_cons_succ, List.setIfInBounds_toArray] at hs
  try simp only [Z.putL, Nat.zero_add] at hs
  refine Z.lb 1 rfl ?_
  refine Z.lnil ?_
  refine Z.only [0, 6, 8, 9, 10] rfl ?_
  refine Z.nthen ?_
  refine Z.seq ?_
  refine Z.drawL [SX.Ent.blk g9 51 ((startV m x.t).1).cells.toArray, SX.Ent.blk g T ((startV m x.t).1).cells.toArray] (fun _ => true) mixed hs ?_
  clear hs; intro wd5 hs
  refine Z.t 0 rfl rfl rfl (by rfl) (by kernel_rfl) ⟨_, hs, by first | (simp; done) | exact fun e he => List.mem_append_right _ he⟩ (Z.Yd.loadA _ rfl Try.isAgg51 (fun _ => Z.cellsB (cs := (startV m x.t).1.cells) (by first | ((repeat (first | exact List.mem_cons_self | refine List.mem_cons_of_mem _ ?_ | refine List.mem_append_right _ ?_)); done) | fail)) (by exact Try.sizeOf51)) ?_
  refine Z.tb [1, 2, 3, 4, 5] (by kernel_rfl) rfl ⟨_, hs, by first | (simp; done) | exact fun e he => List.mem_append_right _ he⟩ rfl ?_
  refine Z.t 6 rfl rfl rfl (by rfl) (by kernel_rfl) ⟨_, hs, by first | (simp; done) | exact fun e he => List.mem_append_right _ he⟩ (Z.Yd.loadA _ rfl Try.isAgg51 (fun _ => Z.cellsB (cs := (startV m x.t).1.cells) (by first | ((repeat (first | exact List.mem_cons_self | refine List.mem_cons_of_mem _ ?_ | refine List.mem_append_right _ ?_)); done) | fail)) (by exact Try.sizeOf51)) ?_
  refine Z.yes (s := 49) (b := true) rfl (by simp) rfl ?_
  refine Z.tn 7 rfl rfl (by kernel_rfl) rfl (by exact ⟨rfl, trivial⟩) ?_
  refine Z.ZO.call rfl rfl (by rfl) rfl rfl Try.call21 rfl (ac_agrees g (startV m x.t).1 _ (hs.celOf (cs := (startV m x.t).1.cells) (by first | ((repeat (first | exact List.mem_cons_self | refine List.mem_cons_of_mem _ ?_ | refine List.mem_append_right _ ?_)); done) | fail)) (hm.start _).cfg) ?_
  rintro v5_7 w5_7 ⟨rfl, hy⟩
  replace hs := hs.call hy
  clear hy
  try simp only [List.cons_append, List.nil_append, List.append_nil] at hs
  refine Z.tk (Dn := fun _ => true) (i := 7) (fun _ => ⟨_, hs, by first | (simp; done) | exact fun e he => List.mem_append_right _ he⟩) ?_
  refine Z.tb [8] (by kernel_rfl) rfl ⟨_, hs, by first | (simp; done) | exact fun e he => List.mem_append_right _ he⟩ rfl ?_
  refine Z.tn 9 rfl rfl (by kernel_rfl) rfl trivial ?_
  first | refine Z.ZO.storeA rfl rfl hs rfl rfl (by kernel_rfl) (by first | (simp [Value.oneCell']; done) | (refine Z.all_one ?_; assumption)) (by first | exact SX.at0 | exact SX.at1 | exact SX.at2 | exact SX.at3 | exact SX.at4 | exact SX.at5 | exact Z.at6 | exact Z.at7 | exact Z.at8 | exact Z.at9 | exact Z.at10 | exact Z.at11 | exact Z.at12) (by rfl) ?_ | refine Z.ZO.storeP rfl rfl hs rfl rfl (by kernel_rfl) (by first | (simp [Value.oneCell']; done) | (refine Z.all_one ?_; assumption)) (by first | exact SX.at0 | exact SX.at1 | exact SX.at2 | exact SX.at3 | exact SX.at4 | exact SX.at5 | exact Z.at6 | exact Z.at7 | exact Z.at8 | exact Z.at9 | exact Z.at10 | exact Z.at11 | exact Z.at12) (by first | decide | (simp; done) | (simp; omega)) ?_ | refine Z.ZO.storePR rfl rfl hs rfl rfl (by kernel_rfl) (by first | (simp [Value.oneCell']; done) | (refine Z.all_one ?_; assumption)) (by first | exact SX.at0 | exact SX.at1 | exact SX.at2 | exact SX.at3 | exact SX.at4 | exact SX.at5 | exact Z.at6 | exact Z.at7 | exact Z.at8 | exact Z.at9 | exact Z.at10 | exact Z.at11 | exact Z.at12) (by first | decide | (simp; done) | (simp; omega)) ?_
  clear hs; intro ws hs
  simp only [Nat.zero_add, Nat.add_zero, Nat.reduceAdd, Int.reduceToNat, Nat.reduceMul, List.set_cons_zero, List.set_cons_succ, List.setIfInBounds_toArray] at hs
  try simp only [Z.putL, Nat.zero_add] at hs
  refine Z.tk (Dn := fun _ => true) (i := 9) (fun _ => ⟨_, hs, by first | (simp; done) | exact fun e he => List.mem_append_right _ he⟩) ?_
  refine Z.tb [10] (by kernel_rfl) rfl ⟨_, hs, by first | (simp; done) | exact fun e he => List.mem_append_right _ he⟩ rfl ?_
  refine Z.td (by rfl) (by kernel_rfl) ?_
  refine Z.only [6, 7] rfl ?_
  refine Z.nthen ?_
  refine Z.ret ?_
  repeat (first | refine Z.rthen ?_ | refine Z.rblock ?_ | refine Z.rscope ?_)
  -- ret#0
  refine Z.out2 (by exact ⟨⟨_, rfl, Z.rvcA hs Try.isAgg51 (by first | ((repeat (first | exact List.mem_cons_self | refine List.mem_cons_of_mem _ ?_ | refine List.mem_append_right _ ?_)); done) | fail) (by exact Try.sizeOf51)⟩, rfl, trivial⟩) ?_
  exact ⟨_, rfl, rfl, hs.sel [1] (by decide)⟩
set_option maxHeartbeats 1000000 in
set_option maxRecDepth 100000 in
theorem ac_do1 (g T : Nat) (m : AcV) (x : AxV) (w : World) (hs : SX.St w (SX.idsOf [SX.Ent.blk g T m.cells.toArray]) w [SX.Ent.blk g T m.cells.toArray]) (hm : m.ok) (hx : GoodX w (SX.idsOf [SX.Ent.blk g T m.cells.toArray]) x) (hk : x.k = 1) :
    Calls Try.prog 22 #[.pointer (some ⟨g, 0, none⟩), .agg m.cells.toArray, .agg x.cells.toArray] w (SX.Ret fun v w' => v = .tuple #[.agg ((sendV m x.t x.d).1).cells.toArray, .bool true] ∧ SX.St w (SX.idsOf [SX.Ent.blk g T m.cells.toArray]) w' [SX.Ent.blk g T ((sendV m x.t x.d).1).cells.toArray]) := by
  generalize hM : SX.idsOf [SX.Ent.blk g T m.cells.toArray] = M at *
  have hone0 := ac_one m
  have hone1 := ax_one x
  have hone := ac_one ((sendV m x.t x.d).1)
  refine Z.enter Try.func22 rfl Try.ntmps22 rfl rfl ?_
  refine Z.seq ?_
  refine Z.region ?_
  refine Z.le rfl trivial ?_
  refine Z.ZO.box rfl rfl (by rfl) rfl rfl hs ?_
  clear hs; intro g4 w4 hs
  refine Z.le rfl trivial ?_
  refine Z.ZO.box rfl rfl (by rfl) rfl rfl hs ?_
  clear hs; intro g5 w5 hs
  refine Z.le rfl trivial ?_
  refine Z.ZO.alloc rfl rfl (by rfl) Try.zeroValue51 rfl hs ?_
  clear hs; intro g6 w6 hs
  refine Z.lb 1 rfl ?_
  refine Z.lnil ?_
  refine Z.only [0, 4, 5, 6] rfl ?_
  refine Z.nthen ?_
  refine Z.seq ?_
  refine Z.seq ?_
  refine Z.region ?_
  refine Z.l rfl rfl (by rfl) (Z.keepS hs) (Z.Yd.fieldA (m := 0) rfl (by kernel_rfl)) ?_
  refine Z.l rfl rfl (by rfl) (Z.keepS hs) (Z.Yd.load rfl Try.isAgg3 (fun _ => Z.cellB (cs := x.cells.toArray) (by first | ((repeat (first | exact List.mem_cons_self | refine List.mem_cons_of_mem _ ?_ | refine List.mem_append_right _ ?_)); done) | fail) rfl)) ?_
  refine Z.lnil ?_
  refine Z.only [0, 4, 5, 6, 31] rfl ?_
  refine Z.nthen ?_
  refine Z.block ?_
  refine Z.seq ?_
  refine Z.region ?_
  refine Z.lb 2 rfl ?_
  refine Z.lnil ?_
  refine Z.only [0, 4, 5, 6, 31, 32] rfl ?_
  refine Z.nthen ?_
  refine Z.cond rfl (fun h => absurd h (by simp [hk])) (fun hc2 => ?_)
  refine Z.seq ?_
  refine Z.region ?_
  refine Z.lb 2 rfl ?_
  refine Z.lnil ?_
  refine Z.only [0, 4, 5, 6, 31, 54] rfl ?_
  refine Z.nthen ?_
  refine Z.cond rfl (fun hc6 => ?_) (fun h => absurd h (by simp [hk]))
  refine Z.seq ?_
  refine Z.region ?_
  refine Z.lb 1 rfl ?_
  refine Z.l rfl rfl (by rfl) (Z.keepS hs) (Z.Yd.fieldA (m := 1) rfl (by kernel_rfl)) ?_
  refine Z.l rfl rfl (by rfl) (Z.keepS hs) (Z.Yd.load rfl Try.isAgg3 (fun _ => Z.cellB (cs := x.cells.toArray) (by first | ((repeat (first | exact List.mem_cons_self | refine List.mem_cons_of_mem _ ?_ | refine List.mem_append_right _ ?_)); done) | fail) rfl)) ?_
  refine Z.l rfl rfl (by rfl) (Z.keepS hs) (Z.Yd.fieldA (m := 2) rfl (by kernel_rfl)) ?_
  refine Z.l rfl rfl (by rfl) (Z.keepS hs) (Z.Yd.load rfl Try.isAgg3 (fun _ => Z.cellB (cs := x.cells.toArray) (by first | ((repeat (first | exact List.mem_cons_self | refine List.mem_cons_of_mem _ ?_ | refine List.mem_append_right _ ?_)); done) | fail) rfl)) ?_
  replace hs : SX.St w M _ ([SX.Ent.blk g T m.cells.toArray] ++ [_, _, _]) := hs.sel [3, 0, 1, 2] (by decide)
  refine Z.le rfl trivial ?_
  refine Z.ZO.call rfl rfl (by rfl) rfl rfl Try.call12 rfl (ac_send g T m x.t x.d _ hs.lend hm) ?_
  rintro v7_5 w7_5 ⟨rfl, hz⟩
  replace hs := hs.regain hz
  simp only [List.cons_append, List.nil_append] at hs
  refine Z.lb 5 rfl ?_
  refine Z.lnil ?_
  refine Z.only [0, 4, 5, 6, 11, 12] rfl ?_
  refine Z.nthen ?_
  refine Z.seq ?_
  refine Z.region ?_
  refine Z.l rfl rfl (by rfl) (Z.keepS hs) (Z.Yd.loadA _ rfl Try.isAgg51 (fun _ => Z.cellsB (cs := m.cells) (by first | ((repeat (first | exact List.mem_cons_self | refine List.mem_cons_of_mem _ ?_ | refine List.mem_append_right _ ?_)); done) | fail)) (by exact Try.sizeOf51)) ?_
  refine Z.l rfl rfl (by rfl) (Z.keepS hs) (Z.Yd.fieldA (m := 1) rfl (by kernel_rfl)) ?_
  refine Z.l rfl rfl (by rfl) (Z.keepS hs) (Z.Yd.load rfl Try.isAgg3 (fun _ => Z.cellB (cs := x.cells.toArray) (by first | ((repeat (first | exact List.mem_cons_self | refine List.mem_cons_of_mem _ ?_ | refine List.mem_append_right _ ?_)); done) | fail) rfl)) ?_
  refine Z.l rfl rfl (by rfl) (Z.keepS hs) (Z.Yd.fieldA (m := 2) rfl (by kernel_rfl)) ?_
  refine Z.l rfl rfl (by rfl) (Z.keepS hs) (Z.Yd.load rfl Try.isAgg3 (fun _ => Z.cellB (cs := x.cells.toArray) (by first | ((repeat (first | exact List.mem_cons_self | refine List.mem_cons_of_mem _ ?_ | refine List.mem_append_right _ ?_)); done) | fail) rfl)) ?_
  refine Z.le rfl trivial ?_
  refine Z.ZO.call rfl rfl (by rfl) rfl rfl Try.call44 rfl (acr_send m x.t x.d _ hm) ?_
  rintro v8_5 w8_5 ⟨rfl, hy⟩
  replace hs := hs.call hy
  clear hy
  try simp only [List.cons_append, List.nil_append, List.append_nil] at hs
  refine Z.lb 4 rfl ?_
  refine Z.le rfl trivial ?_
  refine Z.ZO.alloc rfl rfl (by rfl) Try.zeroValue51 rfl hs ?_
  clear hs; intro g13 w13 hs
  refine Z.le rfl trivial ?_
  first | refine Z.ZO.storeA rfl rfl hs rfl rfl (by kernel_rfl) (by first | (simp [Value.oneCell']; done) | (refine Z.all_one ?_; assumption)) (by first | exact SX.at0 | exact SX.at1 | exact SX.at2 | exact SX.at3 | exact SX.at4 | exact SX.at5 | exact Z.at6 | exact Z.at7 | exact Z.at8 | exact Z.at9 | exact Z.at10 | exact Z.at11 | exact Z.at12) (by rfl) ?_ | refine Z.ZO.storeP rfl rfl hs rfl rfl (by kernel_rfl) (by first | (simp [Value.oneCell']; done) | (refine Z.all_one ?_; assumption)) (by first | exact SX.at0 | exact SX.at1 | exact SX.at2 | exact SX.at3 | exact SX.at4 | exact SX.at5 | exact Z.at6 | exact Z.at7 | exact Z.at8 | exact Z.at9 | exact Z.at10 | exact Z.at11 | exact Z.at12) (by first | decide | (simp; done) | (simp; omega)) ?_ | refine Z.ZO.storePR rfl rfl hs rfl rfl (by kernel_rfl) (by first | (simp [Value.oneCell']; done) | (refine Z.all_one ?_; assumption)) (by first | exact SX.at0 | exact SX.at1 | exact SX.at2 | exact SX.at3 | exact SX.at4 | exact SX.at5 | exact Z.at6 | exact Z.at7 | exact Z.at8 | exact Z.at9 | exact Z.at10 | exact Z.at11 | exact Z.at12) (by first | decide | (simp; done) | (simp; omega)) ?_
  clear hs; intro ws hs
  simp only [Nat.zero_add, Nat.add_zero, Nat.reduceAdd, Int.reduceToNat, Nat.reduceMul, List.set_cons_zero, List.set_cons_succ, List.setIfInBounds_toArray] at hs
  try simp only [Z.putL, Nat.zero_add] at hs
  refine Z.lb 2 rfl ?_
  refine Z.lnil ?_
  refine Z.only [0, 6, 11, 12, 13, 14, 15] rfl ?_
  refine Z.nthen ?_
  refine Z.seq ?_
  refine Z.drawL [SX.Ent.blk g13 51 ((sendV m x.t x.d).1).cells.toArray, SX.Ent.blk g T ((sendV m x.t x.d).1).cells.toArray] (fun _ => true) mixed hs ?_
  clear hs; intro wd9 hs
  refine Z.t 0 rfl rfl rfl (by rfl) (by kernel_rfl) ⟨_, hs, by first | (simp; done) | exact fun e he => List.mem_append_right _ he⟩ (Z.Yd.loadA _ rfl Try.isAgg51 (fun _ => Z.cellsB (cs := (sendV m x.t x.d).1.cells) (by first | ((repeat (first | exact List.mem_cons_self | refine List.mem_cons_of_mem _ ?_ | refine List.mem_append_right _ ?_)); done) | fail)) (by exact Try.sizeOf51)) ?_
  refine Z.tb [1, 2, 3, 4, 5, 6, 7, 8, 9, 10] (by kernel_rfl) rfl ⟨_, hs, by first | (simp; done) | exact fun e he => List.mem_append_right _ he⟩ rfl ?_
  refine Z.t 11 rfl rfl rfl (by rfl) (by kernel_rfl) ⟨_, hs, by first | (simp; done) | exact fun e he => List.mem_append_right _ he⟩ (Z.Yd.loadA _ rfl Try.isAgg51 (fun _ => Z.cellsB (cs := (sendV m x.t x.d).1.cells) (by first | ((repeat (first | exact List.mem_cons_self | refine List.mem_cons_of_mem _ ?_ | refine List.mem_append_right _ ?_)); done) | fail)) (by exact Try.sizeOf51)) ?_
  refine Z.yes (s := 84) (b := true) rfl (by simp) rfl ?_
  refine Z.tn 12 rfl rfl (by kernel_rfl) rfl (by exact ⟨rfl, trivial⟩) ?_
  refine Z.ZO.call rfl rfl (by rfl) rfl rfl Try.call21 rfl (ac_agrees g (sendV m x.t x.d).1 _ (hs.celOf (cs := (sendV m x.t x.d).1.cells) (by first | ((repeat (first | exact List.mem_cons_self | refine List.mem_cons_of_mem _ ?_ | refine List.mem_append_right _ ?_)); done) | fail)) (hm.send _ _).cfg) ?_
  rintro v9_12 w9_12 ⟨rfl, hy⟩
  replace hs := hs.call hy
  clear hy
  try simp only [List.cons_append, List.nil_append, List.append_nil] at hs
  refine Z.tk (Dn := fun _ => true) (i := 12) (fun _ => ⟨_, hs, by first | (simp; done) | exact fun e he => List.mem_append_right _ he⟩) ?_
  refine Z.tb [13] (by kernel_rfl) rfl ⟨_, hs, by first | (simp; done) | exact fun e he => List.mem_append_right _ he⟩ rfl ?_
  refine Z.tn 14 rfl rfl (by kernel_rfl) rfl trivial ?_
  first | refine Z.ZO.storeA rfl rfl hs rfl rfl (by kernel_rfl) (by first | (simp [Value.oneCell']; done) | (refine Z.all_one ?_; assumption)) (by first | exact SX.at0 | exact SX.at1 | exact SX.at2 | exact SX.at3 | exact SX.at4 | exact SX.at5 | exact Z.at6 | exact Z.at7 | exact Z.at8 | exact Z.at9 | exact Z.at10 | exact Z.at11 | exact Z.at12) (by rfl) ?_ | refine Z.ZO.storeP rfl rfl hs rfl rfl (by kernel_rfl) (by first | (simp [Value.oneCell']; done) | (refine Z.all_one ?_; assumption)) (by first | exact SX.at0 | exact SX.at1 | exact SX.at2 | exact SX.at3 | exact SX.at4 | exact SX.at5 | exact Z.at6 | exact Z.at7 | exact Z.at8 | exact Z.at9 | exact Z.at10 | exact Z.at11 | exact Z.at12) (by first | decide | (simp; done) | (simp; omega)) ?_ | refine Z.ZO.storePR rfl rfl hs rfl rfl (by kernel_rfl) (by first | (simp [Value.oneCell']; done) | (refine Z.all_one ?_; assumption)) (by first | exact SX.at0 | exact SX.at1 | exact SX.at2 | exact SX.at3 | exact SX.at4 | exact SX.at5 | exact Z.at6 | exact Z.at7 | exact Z.at8 | exact Z.at9 | exact Z.at10 | exact Z.at11 | exact Z.at12) (by first | decide | (simp; done) | (simp; omega)) ?_
  clear hs; intro ws hs
  simp only [Nat.zero_add, Nat.add_zero, Nat.reduceAdd, Int.reduceToNat, Nat.reduceMul, List.set_cons_zero, List.set_cons_succ, List.setIfInBounds_toArray] at hs
  try simp only [Z.putL, Nat.zero_add] at hs
  refine Z.tk (Dn := fun _ => true) (i := 14) (fun _ => ⟨_, hs, by first | (simp; done) | exact fun e he => List.mem_append_right _ he⟩) ?_
  refine Z.tb [15] (by kernel_rfl) rfl ⟨_, hs, by first | (simp; done) | exact fun e he => List.mem_append_right _ he⟩ rfl ?_
  refine Z.td (by rfl) (by kernel_rfl) ?_
  refine Z.only [6, 7] rfl ?_
  refine Z.nthen ?_
  refine Z.ret ?_
  repeat (first | refine Z.rthen ?_ | refine Z.rblock ?_ | refine Z.rscope ?_)
  -- ret#0
  refine Z.out2 (by exact ⟨⟨_, rfl, Z.rvcA hs Try.isAgg51 (by first | ((repeat (first | exact List.mem_cons_self | refine List.mem_cons_of_mem _ ?_ | refine List.mem_append_right _ ?_)); done) | fail) (by exact Try.sizeOf51)⟩, rfl, trivial⟩) ?_
  exact ⟨_, rfl, rfl, hs.sel [1] (by decide)⟩
set_option maxHeartbeats 1000000 in
set_option maxRecDepth 100000 in
theorem ac_do2 (g T : Nat) (m : AcV) (x : AxV) (w : World) (hs : SX.St w (SX.idsOf [SX.Ent.blk g T m.cells.toArray]) w [SX.Ent.blk g T m.cells.toArray]) (hm : m.ok) (hx : GoodX w (SX.idsOf [SX.Ent.blk g T m.cells.toArray]) x) (hk : x.k = 2) :
    Calls Try.prog 22 #[.pointer (some ⟨g, 0, none⟩), .agg m.cells.toArray, .agg x.cells.toArray] w (SX.Ret fun v w' => v = .tuple #[.agg ((answerV m x.t x.p x.r x.b).1).cells.toArray, .bool true] ∧ SX.St w (SX.idsOf [SX.Ent.blk g T m.cells.toArray]) w' [SX.Ent.blk g T ((answerV m x.t x.p x.r x.b).1).cells.toArray]) := by
  generalize hM : SX.idsOf [SX.Ent.blk g T m.cells.toArray] = M at *
  have hone0 := ac_one m
  have hone1 := ax_one x
  have hone := ac_one ((answerV m x.t x.p x.r x.b).1)
  refine Z.enter Try.func22 rfl Try.ntmps22 rfl rfl ?_
  refine Z.seq ?_
  refine Z.region ?_
  refine Z.le rfl trivial ?_
  refine Z.ZO.box rfl rfl (by rfl) rfl rfl hs ?_
  clear hs; intro g4 w4 hs
  refine Z.le rfl trivial ?_
  refine Z.ZO.box rfl rfl (by rfl) rfl rfl hs ?_
  clear hs; intro g5 w5 hs
  refine Z.le rfl trivial ?_
  refine Z.ZO.alloc rfl rfl (by rfl) Try.zeroValue51 rfl hs ?_
  clear hs; intro g6 w6 hs
  refine Z.lb 1 rfl ?_
  refine Z.lnil ?_
  refine Z.only [0, 4, 5, 6] rfl ?_
  refine Z.nthen ?_
  refine Z.seq ?_
  refine Z.seq ?_
  refine Z.region ?_
  refine Z.l rfl rfl (by rfl) (Z.keepS hs) (Z.Yd.fieldA (m := 0) rfl (by kernel_rfl)) ?_
  refine Z.l rfl rfl (by rfl) (Z.keepS hs) (Z.Yd.load rfl Try.isAgg3 (fun _ => Z.cellB (cs := x.cells.toArray) (by first | ((repeat (first | exact List.mem_cons_self | refine List.mem_cons_of_mem _ ?_ | refine List.mem_append_right _ ?_)); done) | fail) rfl)) ?_
  refine Z.lnil ?_
  refine Z.only [0, 4, 5, 6, 31] rfl ?_
  refine Z.nthen ?_
  refine Z.block ?_
  refine Z.seq ?_
  refine Z.region ?_
  refine Z.lb 2 rfl ?_
  refine Z.lnil ?_
  refine Z.only [0, 4, 5, 6, 31, 32] rfl ?_
  refine Z.nthen ?_
  refine Z.cond rfl (fun h => absurd h (by simp [hk])) (fun hc2 => ?_)
  refine Z.seq ?_
  refine Z.region ?_
  refine Z.lb 2 rfl ?_
  refine Z.lnil ?_
  refine Z.only [0, 4, 5, 6, 31, 54] rfl ?_
  refine Z.nthen ?_
  refine Z.cond rfl (fun h => absurd h (by simp [hk])) (fun hc6 => ?_)
  refine Z.seq ?_
  refine Z.region ?_
  refine Z.lb 2 rfl ?_
  refine Z.lnil ?_
  refine Z.only [0, 4, 5, 6, 31, 89] rfl ?_
  refine Z.nthen ?_
  refine Z.cond rfl (fun hc10 => ?_) (fun h => absurd h (by simp [hk]))
  refine Z.seq ?_
  refine Z.region ?_
  refine Z.lb 1 rfl ?_
  refine Z.l rfl rfl (by rfl) (Z.keepS hs) (Z.Yd.fieldA (m := 1) rfl (by kernel_rfl)) ?_
  refine Z.l rfl rfl (by rfl) (Z.keepS hs) (Z.Yd.load rfl Try.isAgg3 (fun _ => Z.cellB (cs := x.cells.toArray) (by first | ((repeat (first | exact List.mem_cons_self | refine List.mem_cons_of_mem _ ?_ | refine List.mem_append_right _ ?_)); done) | fail) rfl)) ?_
  refine Z.l rfl rfl (by rfl) (Z.keepS hs) (Z.Yd.fieldA (m := 3) rfl (by kernel_rfl)) ?_
  refine Z.l rfl rfl (by rfl) (Z.keepS hs) (Z.Yd.loadA _ rfl Try.isAgg36 (fun _ => Z.cellsBo (cs := x.cells) [.int .i64 x.p, .int .i64 x.r, .int .i64 x.b] (by first | ((repeat (first | exact List.mem_cons_self | refine List.mem_cons_of_mem _ ?_ | refine List.mem_append_right _ ?_)); done) | fail) ⟨[_, _], rfl⟩) (by exact Try.sizeOf36)) ?_
  replace hs : SX.St w M _ ([SX.Ent.blk g T m.cells.toArray] ++ [_, _, _]) := hs.sel [3, 0, 1, 2] (by decide)
  refine Z.le rfl trivial ?_
  refine Z.ZO.call rfl rfl (by rfl) rfl rfl Try.call13 rfl (ac_answer g T m x.t x.p x.r x.b _ hs.lend hm) ?_
  rintro v11_5 w11_5 ⟨rfl, hz⟩
  replace hs := hs.regain hz
  simp only [List.cons_append, List.nil_append] at hs
  refine Z.lb 5 rfl ?_
  refine Z.lnil ?_
  refine Z.only [0, 4, 5, 6, 16, 17] rfl ?_
  refine Z.nthen ?_
  refine Z.seq ?_
  refine Z.region ?_
  refine Z.l rfl rfl (by rfl) (Z.keepS hs) (Z.Yd.loadA _ rfl Try.isAgg51 (fun _ => Z.cellsB (cs := m.cells) (by first | ((repeat (first | exact List.mem_cons_self | refine List.mem_cons_of_mem _ ?_ | refine List.mem_append_right _ ?_)); done) | fail)) (by exact Try.sizeOf51)) ?_
  refine Z.l rfl rfl (by rfl) (Z.keepS hs) (Z.Yd.fieldA (m := 1) rfl (by kernel_rfl)) ?_
  refine Z.l rfl rfl (by rfl) (Z.keepS hs) (Z.Yd.load rfl Try.isAgg3 (fun _ => Z.cellB (cs := x.cells.toArray) (by first | ((repeat (first | exact List.mem_cons_self | refine List.mem_cons_of_mem _ ?_ | refine List.mem_append_right _ ?_)); done) | fail) rfl)) ?_
  refine Z.l rfl rfl (by rfl) (Z.keepS hs) (Z.Yd.fieldA (m := 3) rfl (by kernel_rfl)) ?_
  refine Z.l rfl rfl (by rfl) (Z.keepS hs) (Z.Yd.loadA _ rfl Try.isAgg36 (fun _ => Z.cellsBo (cs := x.cells) [.int .i64 x.p, .int .i64 x.r, .int .i64 x.b] (by first | ((repeat (first | exact List.mem_cons_self | refine List.mem_cons_of_mem _ ?_ | refine List.mem_append_right _ ?_)); done) | fail) ⟨[_, _], rfl⟩) (by exact Try.sizeOf36)) ?_
  refine Z.le rfl trivial ?_
  refine Z.ZO.call rfl rfl (by rfl) rfl rfl Try.call45 rfl (acr_answer m x.t x.p x.r x.b _ hm) ?_
  rintro v12_5 w12_5 ⟨rfl, hy⟩
  replace hs := hs.call hy
  clear hy
  try simp only [List.cons_append, List.nil_append, List.append_nil] at hs
  refine Z.lb 4 rfl ?_
  refine Z.le rfl trivial ?_
  refine Z.ZO.alloc rfl rfl (by rfl) Try.zeroValue51 rfl hs ?_
  clear hs; intro g18 w18 hs
  refine Z.le rfl trivial ?_
  first | refine Z.ZO.storeA rfl rfl hs rfl rfl (by kernel_rfl) (by first | (simp [Value.oneCell']; done) | (refine Z.all_one ?_; assumption)) (by first | exact SX.at0 | exact SX.at1 | exact SX.at2 | exact SX.at3 | exact SX.at4 | exact SX.at5 | exact Z.at6 | exact Z.at7 | exact Z.at8 | exact Z.at9 | exact Z.at10 | exact Z.at11 | exact Z.at12) (by rfl) ?_ | refine Z.ZO.storeP rfl rfl hs rfl rfl (by kernel_rfl) (by first | (simp [Value.oneCell']; done) | (refine Z.all_one ?_; assumption)) (by first | exact SX.at0 | exact SX.at1 | exact SX.at2 | exact SX.at3 | exact SX.at4 | exact SX.at5 | exact Z.at6 | exact Z.at7 | exact Z.at8 | exact Z.at9 | exact Z.at10 | exact Z.at11 | exact Z.at12) (by first | decide | (simp; done) | (simp; omega)) ?_ | refine Z.ZO.storePR rfl rfl hs rfl rfl (by kernel_rfl) (by first | (simp [Value.oneCell']; done) | (refine Z.all_one ?_; assumption)) (by first | exact SX.at0 | exact SX.at1 | exact SX.at2 | exact SX.at3 | exact SX.at4 | exact SX.at5 | exact Z.at6 | exact Z.at7 | exact Z.at8 | exact Z.at9 | exact Z.at10 | exact Z.at11 | exact Z.at12) (by first | decide | (simp; done) | (simp; omega)) ?_
  clear hs; intro ws hs
  simp only [Nat.zero_add, Nat.add_zero, Nat.reduceAdd, Int.reduceToNat, Nat.reduceMul, List.set_cons_zero, List.set_cons_succ, List.setIfInBounds_toArray] at hs
  try simp only [Z.putL, Nat.zero_add] at hs
  refine Z.lb 2 rfl ?_
  refine Z.lnil ?_
  refine Z.only [0, 6, 16, 17, 18, 19, 20] rfl ?_
  refine Z.nthen ?_
  refine Z.seq ?_
  refine Z.drawL [SX.Ent.blk g18 51 ((answerV m x.t x.p x.r x.b).1).cells.toArray, SX.Ent.blk g T ((answerV m x.t x.p x.r x.b).1).cells.toArray] (fun _ => true) mixed hs ?_
  clear hs; intro wd13 hs
  refine Z.t 0 rfl rfl rfl (by rfl) (by kernel_rfl) ⟨_, hs, by first | (simp; done) | exact fun e he => List.mem_append_right _ he⟩ (Z.Yd.loadA _ rfl Try.isAgg51 (fun _ => Z.cellsB (cs := (answerV m x.t x.p x.r x.b).1.cells) (by first | ((repeat (first | exact List.mem_cons_self | refine List.mem_cons_of_mem _ ?_ | refine List.mem_append_right _ ?_)); done) | fail)) (by exact Try.sizeOf51)) ?_
  refine Z.tb [1, 2] (by kernel_rfl) rfl ⟨_, hs, by first | (simp; done) | exact fun e he => List.mem_append_right _ he⟩ rfl ?_
  refine Z.t 3 rfl rfl rfl (by rfl) (by kernel_rfl) ⟨_, hs, by first | (simp; done) | exact fun e he => List.mem_append_right _ he⟩ (Z.Yd.bin rfl rfl (by intro _ w; go_simp; try rfl)) ?_
  refine Z.tb [4, 5, 6, 7, 8, 9, 10] (by kernel_rfl) rfl ⟨_, hs, by first | (simp; done) | exact fun e he => List.mem_append_right _ he⟩ rfl ?_
  refine Z.t 11 rfl rfl rfl (by rfl) (by kernel_rfl) ⟨_, hs, by first | (simp; done) | exact fun e he => List.mem_append_right _ he⟩ (Z.Yd.loadA _ rfl Try.isAgg51 (fun _ => Z.cellsB (cs := (answerV m x.t x.p x.r x.b).1.cells) (by first | ((repeat (first | exact List.mem_cons_self | refine List.mem_cons_of_mem _ ?_ | refine List.mem_append_right _ ?_)); done) | fail)) (by exact Try.sizeOf51)) ?_
  refine Z.yes (s := 119) (b := true) rfl (by simp) rfl ?_
  refine Z.tn 12 rfl rfl (by kernel_rfl) rfl (by exact ⟨rfl, trivial⟩) ?_
  refine Z.ZO.call rfl rfl (by rfl) rfl rfl Try.call21 rfl (ac_agrees g (answerV m x.t x.p x.r x.b).1 _ (hs.celOf (cs := (answerV m x.t x.p x.r x.b).1.cells) (by first | ((repeat (first | exact List.mem_cons_self | refine List.mem_cons_of_mem _ ?_ | refine List.mem_append_right _ ?_)); done) | fail)) (hm.answer _ _ _ _).cfg) ?_
  rintro v13_12 w13_12 ⟨rfl, hy⟩
  replace hs := hs.call hy
  clear hy
  try simp only [List.cons_append, List.nil_append, List.append_nil] at hs
  refine Z.tk (Dn := fun _ => true) (i := 12) (fun _ => ⟨_, hs, by first | (simp; done) | exact fun e he => List.mem_append_right _ he⟩) ?_
  refine Z.tb [13] (by kernel_rfl) rfl ⟨_, hs, by first | (simp; done) | exact fun e he => List.mem_append_right _ he⟩ rfl ?_
  refine Z.tn 14 rfl rfl (by kernel_rfl) rfl trivial ?_
  first | refine Z.ZO.storeA rfl rfl hs rfl rfl (by kernel_rfl) (by first | (simp [Value.oneCell']; done) | (refine Z.all_one ?_; assumption)) (by first | exact SX.at0 | exact SX.at1 | exact SX.at2 | exact SX.at3 | exact SX.at4 | exact SX.at5 | exact Z.at6 | exact Z.at7 | exact Z.at8 | exact Z.at9 | exact Z.at10 | exact Z.at11 | exact Z.at12) (by rfl) ?_ | refine Z.ZO.storeP rfl rfl hs rfl rfl (by kernel_rfl) (by first | (simp [Value.oneCell']; done) | (refine Z.all_one ?_; assumption)) (by first | exact SX.at0 | exact SX.at1 | exact SX.at2 | exact SX.at3 | exact SX.at4 | exact SX.at5 | exact Z.at6 | exact Z.at7 | exact Z.at8 | exact Z.at9 | exact Z.at10 | exact Z.at11 | exact Z.at12) (by first | decide | (simp; done) | (simp; omega)) ?_ | refine Z.ZO.storePR rfl rfl hs rfl rfl (by kernel_rfl) (by first | (simp [Value.oneCell']; done) | (refine Z.all_one ?_; assumption)) (by first | exact SX.at0 | exact SX.at1 | exact SX.at2 | exact SX.at3 | exact SX.at4 | exact SX.at5 | exact Z.at6 | exact Z.at7 | exact Z.at8 | exact Z.at9 | exact Z.at10 | exact Z.at11 | exact Z.at12) (by first | decide | (simp; done) | (simp; omega)) ?_
  clear hs; intro ws hs
  simp only [Nat.zero_add, Nat.add_zero, Nat.reduceAdd, Int.reduceToNat, Nat.reduceMul, List.set_cons_zero, List.set_cons_succ, List.setIfInBounds_toArray] at hs
  try simp only [Z.putL, Nat.zero_add] at hs
  refine Z.tk (Dn := fun _ => true) (i := 14) (fun _ => ⟨_, hs, by first | (simp; done) | exact fun e he => List.mem_append_right _ he⟩) ?_
  refine Z.tb [15] (by kernel_rfl) rfl ⟨_, hs, by first | (simp; done) | exact fun e he => List.mem_append_right _ he⟩ rfl ?_
  refine Z.td (by rfl) (by kernel_rfl) ?_
  refine Z.only [6, 7] rfl ?_
  refine Z.nthen ?_
  refine Z.ret ?_
  repeat (first | refine Z.rthen ?_ | refine Z.rblock ?_ | refine Z.rscope ?_)
  -- ret#0
  refine Z.out2 (by exact ⟨⟨_, rfl, Z.rvcA hs Try.isAgg51 (by first | ((repeat (first | exact List.mem_cons_self | refine List.mem_cons_of_mem _ ?_ | refine List.mem_append_right _ ?_)); done) | fail) (by exact Try.sizeOf51)⟩, rfl, trivial⟩) ?_
  exact ⟨_, rfl, rfl, hs.sel [1] (by decide)⟩
set_option maxHeartbeats 1000000 in
set_option maxRecDepth 100000 in
theorem ac_do4 (g T : Nat) (m : AcV) (x : AxV) (w : World) (hs : SX.St w (SX.idsOf [SX.Ent.blk g T m.cells.toArray]) w [SX.Ent.blk g T m.cells.toArray]) (hm : m.ok) (hx : GoodX w (SX.idsOf [SX.Ent.blk g T m.cells.toArray]) x) (hk : x.k = 4) :
    Calls Try.prog 22 #[.pointer (some ⟨g, 0, none⟩), .agg m.cells.toArray, .agg x.cells.toArray] w (SX.Ret fun v w' => v = .tuple #[.agg (tickR m x.t).cells.toArray, .bool true] ∧ SX.St w (SX.idsOf [SX.Ent.blk g T m.cells.toArray]) w' [SX.Ent.blk g T (tickR m x.t).cells.toArray]) := by
  generalize hM : SX.idsOf [SX.Ent.blk g T m.cells.toArray] = M at *
  have hone0 := ac_one m
  have hone1 := ax_one x
  have hone := ac_one (tickR m x.t)
  refine Z.enter Try.func22 rfl Try.ntmps22 rfl rfl ?_
  refine Z.seq ?_
  refine Z.region ?_
  refine Z.le rfl trivial ?_
  refine Z.ZO.box rfl rfl (by rfl) rfl rfl hs ?_
  clear hs; intro g4 w4 hs
  refine Z.le rfl trivial ?_
  refine Z.ZO.box rfl rfl (by rfl) rfl rfl hs ?_
  clear hs; intro g5 w5 hs
  refine Z.le rfl trivial ?_
  refine Z.ZO.alloc rfl rfl (by rfl) Try.zeroValue51 rfl hs ?_
  clear hs; intro g6 w6 hs
  refine Z.lb 1 rfl ?_
  refine Z.lnil ?_
  refine Z.only [0, 4, 5, 6] rfl ?_
  refine Z.nthen ?_
  refine Z.seq ?_
  refine Z.seq ?_
  refine Z.region ?_
  refine Z.l rfl rfl (by rfl) (Z.keepS hs) (Z.Yd.fieldA (m := 0) rfl (by kernel_rfl)) ?_
  refine Z.l rfl rfl (by rfl) (Z.keepS hs) (Z.Yd.load rfl Try.isAgg3 (fun _ => Z.cellB (cs := x.cells.toArray) (by first | ((repeat (first | exact List.mem_cons_self | refine List.mem_cons_of_mem _ ?_ | refine List.mem_append_right _ ?_)); done) | fail) rfl)) ?_
  refine Z.lnil ?_
  refine Z.only [0, 4, 5, 6, 31] rfl ?_
  refine Z.nthen ?_
  refine Z.block ?_
  refine Z.seq ?_
  refine Z.region ?_
  refine Z.lb 2 rfl ?_
  refine Z.lnil ?_
  refine Z.only [0, 4, 5, 6, 31, 32] rfl ?_
  refine Z.nthen ?_
  refine Z.cond rfl (fun h => absurd h (by simp [hk])) (fun hc2 => ?_)
  refine Z.seq ?_
  refine Z.region ?_
  refine Z.lb 2 rfl ?_
  refine Z.lnil ?_
  refine Z.only [0, 4, 5, 6, 31, 54] rfl ?_
  refine Z.nthen ?_
  refine Z.cond rfl (fun h => absurd h (by simp [hk])) (fun hc6 => ?_)
  refine Z.seq ?_
  refine Z.region ?_
  refine Z.lb 2 rfl ?_
  refine Z.lnil ?_
  refine Z.only [0, 4, 5, 6, 31, 89] rfl ?_
  refine Z.nthen ?_
  refine Z.cond rfl (fun h => absurd h (by simp [hk])) (fun hc10 => ?_)
  refine Z.seq ?_
  refine Z.seq ?_
  refine Z.region ?_
  refine Z.lb 2 rfl ?_
  refine Z.lnil ?_
  refine Z.only [0, 4, 5, 6, 31, 124] rfl ?_
  refine Z.nthen ?_
  refine Z.cond rfl (fun h => absurd h (by simp [hk])) (fun hc14 => ?_)
  refine Z.region ?_
  refine Z.lb 2 rfl ?_
  refine Z.lnil ?_
  refine Z.only [0, 4, 5, 6, 31, 124] rfl ?_
  refine Z.nthen ?_
  refine Z.cond rfl (fun h => absurd h (by simp [hk])) (fun hc15 => ?_)
  refine Z.seq ?_
  refine Z.region ?_
  refine Z.lb 2 rfl ?_
  refine Z.lnil ?_
  refine Z.only [0, 4, 5, 6, 170] rfl ?_
  refine Z.nthen ?_
  refine Z.cond rfl (fun hc22 => ?_) (fun h => absurd h (by simp [hk]))
  refine Z.seq ?_
  refine Z.region ?_
  refine Z.lb 1 rfl ?_
  refine Z.l rfl rfl (by rfl) (Z.keepS hs) (Z.Yd.fieldA (m := 1) rfl (by kernel_rfl)) ?_
  refine Z.l rfl rfl (by rfl) (Z.keepS hs) (Z.Yd.load rfl Try.isAgg3 (fun _ => Z.cellB (cs := x.cells.toArray) (by first | ((repeat (first | exact List.mem_cons_self | refine List.mem_cons_of_mem _ ?_ | refine List.mem_append_right _ ?_)); done) | fail) rfl)) ?_
  replace hs : SX.St w M _ ([SX.Ent.blk g T m.cells.toArray] ++ [_, _, _]) := hs.sel [3, 0, 1, 2] (by decide)
  refine Z.le rfl trivial ?_
  refine Z.ZO.call rfl rfl (by rfl) rfl rfl Try.call24 rfl (ac_tick g T m x.t _ hs.lend hm) ?_
  rintro v23_3 w23_3 ⟨rfl, hz⟩
  replace hs := hs.regain hz
  simp only [List.cons_append, List.nil_append] at hs
  replace hs : SX.St w M _ [SX.Ent.blk g T (tickR m x.t).cells.toArray, _, _, _] := hs
  refine Z.lb 1 rfl ?_
  refine Z.lnil ?_
  refine Z.only [0, 4, 5, 6, 27] rfl ?_
  refine Z.nthen ?_
  refine Z.seq ?_
  refine Z.region ?_
  refine Z.l rfl rfl (by rfl) (Z.keepS hs) (Z.Yd.loadA _ rfl Try.isAgg51 (fun _ => Z.cellsB (cs := m.cells) (by first | ((repeat (first | exact List.mem_cons_self | refine List.mem_cons_of_mem _ ?_ | refine List.mem_append_right _ ?_)); done) | fail)) (by exact Try.sizeOf51)) ?_
  refine Z.l rfl rfl (by rfl) (Z.keepS hs) (Z.Yd.fieldA (m := 1) rfl (by kernel_rfl)) ?_
  refine Z.l rfl rfl (by rfl) (Z.keepS hs) (Z.Yd.load rfl Try.isAgg3 (fun _ => Z.cellB (cs := x.cells.toArray) (by first | ((repeat (first | exact List.mem_cons_self | refine List.mem_cons_of_mem _ ?_ | refine List.mem_append_right _ ?_)); done) | fail) rfl)) ?_
  refine Z.le rfl trivial ?_
  refine Z.ZO.call rfl rfl (by rfl) rfl rfl Try.call47 rfl (acr_tick m x.t _ hm) ?_
  rintro v24_3 w24_3 ⟨rfl, hy⟩
  replace hs := hs.call hy
  clear hy
  try simp only [List.cons_append, List.nil_append, List.append_nil] at hs
  refine Z.lb 3 rfl ?_
  refine Z.le rfl trivial ?_
  refine Z.ZO.alloc rfl rfl (by rfl) Try.zeroValue51 rfl hs ?_
  clear hs; intro g28 w28 hs
  refine Z.le rfl trivial ?_
  first | refine Z.ZO.storeA rfl rfl hs rfl rfl (by kernel_rfl) (by first | (simp [Value.oneCell']; done) | (refine Z.all_one ?_; assumption)) (by first | exact SX.at0 | exact SX.at1 | exact SX.at2 | exact SX.at3 | exact SX.at4 | exact SX.at5 | exact Z.at6 | exact Z.at7 | exact Z.at8 | exact Z.at9 | exact Z.at10 | exact Z.at11 | exact Z.at12) (by rfl) ?_ | refine Z.ZO.storeP rfl rfl hs rfl rfl (by kernel_rfl) (by first | (simp [Value.oneCell']; done) | (refine Z.all_one ?_; assumption)) (by first | exact SX.at0 | exact SX.at1 | exact SX.at2 | exact SX.at3 | exact SX.at4 | exact SX.at5 | exact Z.at6 | exact Z.at7 | exact Z.at8 | exact Z.at9 | exact Z.at10 | exact Z.at11 | exact Z.at12) (by first | decide | (simp; done) | (simp; omega)) ?_ | refine Z.ZO.storePR rfl rfl hs rfl rfl (by kernel_rfl) (by first | (simp [Value.oneCell']; done) | (refine Z.all_one ?_; assumption)) (by first | exact SX.at0 | exact SX.at1 | exact SX.at2 | exact SX.at3 | exact SX.at4 | exact SX.at5 | exact Z.at6 | exact Z.at7 | exact Z.at8 | exact Z.at9 | exact Z.at10 | exact Z.at11 | exact Z.at12) (by first | decide | (simp; done) | (simp; omega)) ?_
  clear hs; intro ws hs
  simp only [Nat.zero_add, Nat.add_zero, Nat.reduceAdd, Int.reduceToNat, Nat.reduceMul, List.set_cons_zero, List.set_cons_succ, List.setIfInBounds_toArray] at hs
  try simp only [Z.putL, Nat.zero_add] at hs
  refine Z.lb 1 rfl ?_
  refine Z.lnil ?_
  refine Z.only [0, 6, 27, 28, 29] rfl ?_
  refine Z.nthen ?_
  refine Z.seq ?_
  refine Z.drawL [SX.Ent.blk g28 51 (tickR m x.t).cells.toArray, SX.Ent.blk g T (tickR m x.t).cells.toArray] (fun _ => true) mixed hs ?_
  clear hs; intro wd25 hs
  refine Z.t 0 rfl rfl rfl (by rfl) (by kernel_rfl) ⟨_, hs, by first | (simp; done) | exact fun e he => List.mem_append_right _ he⟩ (Z.Yd.loadA _ rfl Try.isAgg51 (fun _ => Z.cellsB (cs := (tickR m x.t).cells) (by first | ((repeat (first | exact List.mem_cons_self | refine List.mem_cons_of_mem _ ?_ | refine List.mem_append_right _ ?_)); done) | fail)) (by exact Try.sizeOf51)) ?_
  refine Z.tb [1, 2, 3, 4, 5] (by kernel_rfl) rfl ⟨_, hs, by first | (simp; done) | exact fun e he => List.mem_append_right _ he⟩ rfl ?_
  refine Z.t 6 rfl rfl rfl (by rfl) (by kernel_rfl) ⟨_, hs, by first | (simp; done) | exact fun e he => List.mem_append_right _ he⟩ (Z.Yd.loadA _ rfl Try.isAgg51 (fun _ => Z.cellsB (cs := (tickR m x.t).cells) (by first | ((repeat (first | exact List.mem_cons_self | refine List.mem_cons_of_mem _ ?_ | refine List.mem_append_right _ ?_)); done) | fail)) (by exact Try.sizeOf51)) ?_
  refine Z.yes (s := 187) (b := true) rfl (by simp [tickE]) rfl ?_
  refine Z.tn 7 rfl rfl (by kernel_rfl) rfl (by exact ⟨rfl, trivial⟩) ?_
  refine Z.ZO.call rfl rfl (by rfl) rfl rfl Try.call21 rfl (ac_agrees g (tickR m x.t) _ (hs.celOf (cs := (tickR m x.t).cells) (by first | ((repeat (first | exact List.mem_cons_self | refine List.mem_cons_of_mem _ ?_ | refine List.mem_append_right _ ?_)); done) | fail)) (hm.tickR _).cfg) ?_
  rintro v25_7 w25_7 ⟨rfl, hy⟩
  replace hs := hs.call hy
  clear hy
  try simp only [List.cons_append, List.nil_append, List.append_nil] at hs
  refine Z.tk (Dn := fun _ => true) (i := 7) (fun _ => ⟨_, hs, by first | (simp; done) | exact fun e he => List.mem_append_right _ he⟩) ?_
  refine Z.tb [8] (by kernel_rfl) rfl ⟨_, hs, by first | (simp; done) | exact fun e he => List.mem_append_right _ he⟩ rfl ?_
  refine Z.tn 9 rfl rfl (by kernel_rfl) rfl trivial ?_
  first | refine Z.ZO.storeA rfl rfl hs rfl rfl (by kernel_rfl) (by first | (simp [Value.oneCell']; done) | (refine Z.all_one ?_; assumption)) (by first | exact SX.at0 | exact SX.at1 | exact SX.at2 | exact SX.at3 | exact SX.at4 | exact SX.at5 | exact Z.at6 | exact Z.at7 | exact Z.at8 | exact Z.at9 | exact Z.at10 | exact Z.at11 | exact Z.at12) (by rfl) ?_ | refine Z.ZO.storeP rfl rfl hs rfl rfl (by kernel_rfl) (by first | (simp [Value.oneCell']; done) | (refine Z.all_one ?_; assumption)) (by first | exact SX.at0 | exact SX.at1 | exact SX.at2 | exact SX.at3 | exact SX.at4 | exact SX.at5 | exact Z.at6 | exact Z.at7 | exact Z.at8 | exact Z.at9 | exact Z.at10 | exact Z.at11 | exact Z.at12) (by first | decide | (simp; done) | (simp; omega)) ?_ | refine Z.ZO.storePR rfl rfl hs rfl rfl (by kernel_rfl) (by first | (simp [Value.oneCell']; done) | (refine Z.all_one ?_; assumption)) (by first | exact SX.at0 | exact SX.at1 | exact SX.at2 | exact SX.at3 | exact SX.at4 | exact SX.at5 | exact Z.at6 | exact Z.at7 | exact Z.at8 | exact Z.at9 | exact Z.at10 | exact Z.at11 | exact Z.at12) (by first | decide | (simp; done) | (simp; omega)) ?_
  clear hs; intro ws hs
  simp only [Nat.zero_add, Nat.add_zero, Nat.reduceAdd, Int.reduceToNat, Nat.reduceMul, List.set_cons_zero, List.set_cons_succ, List.setIfInBounds_toArray] at hs
  try simp only [Z.putL, Nat.zero_add] at hs
  refine Z.tk (Dn := fun _ => true) (i := 9) (fun _ => ⟨_, hs, by first | (simp; done) | exact fun e he => List.mem_append_right _ he⟩) ?_
  refine Z.tb [10] (by kernel_rfl) rfl ⟨_, hs, by first | (simp; done) | exact fun e he => List.mem_append_right _ he⟩ rfl ?_
  refine Z.td (by rfl) (by kernel_rfl) ?_
  refine Z.only [6, 7] rfl ?_
  refine Z.nthen ?_
  refine Z.ret ?_
  repeat (first | refine Z.rthen ?_ | refine Z.rblock ?_ | refine Z.rscope ?_)
  -- ret#0
  refine Z.out2 (by exact ⟨⟨_, rfl, Z.rvcA hs Try.isAgg51 (by first | ((repeat (first | exact List.mem_cons_self | refine List.mem_cons_of_mem _ ?_ | refine List.mem_append_right _ ?_)); done) | fail) (by exact Try.sizeOf51)⟩, rfl, trivial⟩) ?_
  exact ⟨_, rfl, rfl, hs.sel [1] (by decide)⟩
set_option maxHeartbeats 1000000 in
set_option maxRecDepth 100000 in
theorem ac_doN (g T : Nat) (m : AcV) (x : AxV) (w : World) (hs : SX.St w (SX.idsOf [SX.Ent.blk g T m.cells.toArray]) w [SX.Ent.blk g T m.cells.toArray]) (hm : m.ok) (hx : GoodX w (SX.idsOf [SX.Ent.blk g T m.cells.toArray]) x) (hk : x.k ≠ 0 ∧ x.k ≠ 1 ∧ x.k ≠ 2 ∧ x.k ≠ 3 ∧ x.k ≠ 4 ∧ x.k ≠ 5) :
    Calls Try.prog 22 #[.pointer (some ⟨g, 0, none⟩), .agg m.cells.toArray, .agg x.cells.toArray] w (SX.Ret fun v w' => v = .tuple #[.agg (m).cells.toArray, .bool true] ∧ SX.St w (SX.idsOf [SX.Ent.blk g T m.cells.toArray]) w' [SX.Ent.blk g T (m).cells.toArray]) := by
  generalize hM : SX.idsOf [SX.Ent.blk g T m.cells.toArray] = M at *
  have hone0 := ac_one m
  have hone1 := ax_one x
  have hone := ac_one (m)
  refine Z.enter Try.func22 rfl Try.ntmps22 rfl rfl ?_
  refine Z.seq ?_
  refine Z.region ?_
  refine Z.le rfl trivial ?_
  refine Z.ZO.box rfl rfl (by rfl) rfl rfl hs ?_
  clear hs; intro g4 w4 hs
  refine Z.le rfl trivial ?_
  refine Z.ZO.box rfl rfl (by rfl) rfl rfl hs ?_
  clear hs; intro g5 w5 hs
  refine Z.le rfl trivial ?_
  refine Z.ZO.alloc rfl rfl (by rfl) Try.zeroValue51 rfl hs ?_
  clear hs; intro g6 w6 hs
  refine Z.lb 1 rfl ?_
  refine Z.lnil ?_
  refine Z.only [0, 4, 5, 6] rfl ?_
  refine Z.nthen ?_
  refine Z.seq ?_
  refine Z.seq ?_
  refine Z.region ?_
  refine Z.l rfl rfl (by rfl) (Z.keepS hs) (Z.Yd.fieldA (m := 0) rfl (by kernel_rfl)) ?_
  refine Z.l rfl rfl (by rfl) (Z.keepS hs) (Z.Yd.load rfl Try.isAgg3 (fun _ => Z.cellB (cs := x.cells.toArray) (by first | ((repeat (first | exact List.mem_cons_self | refine List.mem_cons_of_mem _ ?_ | refine List.mem_append_right _ ?_)); done) | fail) rfl)) ?_
  refine Z.lnil ?_
  refine Z.only [0, 4, 5, 6, 31] rfl ?_
  refine Z.nthen ?_
  refine Z.block ?_
  refine Z.seq ?_
  refine Z.region ?_
  refine Z.lb 2 rfl ?_
  refine Z.lnil ?_
  refine Z.only [0, 4, 5, 6, 31, 32] rfl ?_
  refine Z.nthen ?_
  refine Z.cond rfl (fun h => absurd h (by simp [hk])) (fun hc2 => ?_)
  refine Z.seq ?_
  refine Z.region ?_
  refine Z.lb 2 rfl ?_
  refine Z.lnil ?_
  refine Z.only [0, 4, 5, 6, 31, 54] rfl ?_
  refine Z.nthen ?_
  refine Z.cond rfl (fun h => absurd h (by simp [hk])) (fun hc6 => ?_)
  refine Z.seq ?_
  refine Z.region ?_
  refine Z.lb 2 rfl ?_
  refine Z.lnil ?_
  refine Z.only [0, 4, 5, 6, 31, 89] rfl ?_
  refine Z.nthen ?_
  refine Z.cond rfl (fun h => absurd h (by simp [hk])) (fun hc10 => ?_)
  refine Z.seq ?_
  refine Z.seq ?_
  refine Z.region ?_
  refine Z.lb 2 rfl ?_
  refine Z.lnil ?_
  refine Z.only [0, 4, 5, 6, 31, 124] rfl ?_
  refine Z.nthen ?_
  refine Z.cond rfl (fun h => absurd h (by simp [hk])) (fun hc14 => ?_)
  refine Z.region ?_
  refine Z.lb 2 rfl ?_
  refine Z.lnil ?_
  refine Z.only [0, 4, 5, 6, 31, 124] rfl ?_
  refine Z.nthen ?_
  refine Z.cond rfl (fun h => absurd h (by simp [hk])) (fun hc15 => ?_)
  refine Z.seq ?_
  refine Z.region ?_
  refine Z.lb 2 rfl ?_
  refine Z.lnil ?_
  refine Z.only [0, 4, 5, 6, 170] rfl ?_
  refine Z.nthen ?_
  refine Z.cond rfl (fun h => absurd h (by simp [hk])) (fun hc22 => ?_)
  refine Z.skip ?_
  refine Z.nblock ?_
  refine Z.nthen ?_
  refine Z.seq ?_
  refine Z.region ?_
  refine Z.l rfl rfl (by rfl) (Z.keepS hs) (Z.Yd.loadA _ rfl Try.isAgg51 (fun _ => Z.cellsB (cs := m.cells) (by first | ((repeat (first | exact List.mem_cons_self | refine List.mem_cons_of_mem _ ?_ | refine List.mem_append_right _ ?_)); done) | fail)) (by exact Try.sizeOf51)) ?_
  refine Z.le rfl trivial ?_
  first | refine Z.ZO.storeA rfl rfl hs rfl rfl (by kernel_rfl) (by first | (simp [Value.oneCell']; done) | (refine Z.all_one ?_; assumption)) (by first | exact SX.at0 | exact SX.at1 | exact SX.at2 | exact SX.at3 | exact SX.at4 | exact SX.at5 | exact Z.at6 | exact Z.at7 | exact Z.at8 | exact Z.at9 | exact Z.at10 | exact Z.at11 | exact Z.at12) (by rfl) ?_ | refine Z.ZO.storeP rfl rfl hs rfl rfl (by kernel_rfl) (by first | (simp [Value.oneCell']; done) | (refine Z.all_one ?_; assumption)) (by first | exact SX.at0 | exact SX.at1 | exact SX.at2 | exact SX.at3 | exact SX.at4 | exact SX.at5 | exact Z.at6 | exact Z.at7 | exact Z.at8 | exact Z.at9 | exact Z.at10 | exact Z.at11 | exact Z.at12) (by first | decide | (simp; done) | (simp; omega)) ?_ | refine Z.ZO.storePR rfl rfl hs rfl rfl (by kernel_rfl) (by first | (simp [Value.oneCell']; done) | (refine Z.all_one ?_; assumption)) (by first | exact SX.at0 | exact SX.at1 | exact SX.at2 | exact SX.at3 | exact SX.at4 | exact SX.at5 | exact Z.at6 | exact Z.at7 | exact Z.at8 | exact Z.at9 | exact Z.at10 | exact Z.at11 | exact Z.at12) (by first | decide | (simp; done) | (simp; omega)) ?_
  clear hs; intro ws hs
  simp only [Nat.zero_add, Nat.add_zero, Nat.reduceAdd, Int.reduceToNat, Nat.reduceMul, List.set_cons_zero, List.set_cons_succ, List.setIfInBounds_toArray] at hs
  try simp only [Z.putL, Nat.zero_add] at hs
  refine Z.lb 1 rfl ?_
  refine Z.lnil ?_
  refine Z.only [6, 7] rfl ?_
  refine Z.nthen ?_
  refine Z.ret ?_
  -- ret#0
  refine Z.out2 (by exact ⟨⟨_, rfl, Z.rvcA hs Try.isAgg51 (by first | ((repeat (first | exact List.mem_cons_self | refine List.mem_cons_of_mem _ ?_ | refine List.mem_append_right _ ?_)); done) | fail) (by exact Try.sizeOf51)⟩, rfl, trivial⟩) ?_
  exact ⟨_, rfl, rfl, hs.sel [3] (by decide)⟩
set_option maxHeartbeats 1000000 in
set_option maxRecDepth 100000 in
theorem ac_do3 (g T : Nat) (m : AcV) (x : AxV) (w : World) (hs : SX.St w (SX.idsOf [SX.Ent.blk g T m.cells.toArray]) w [SX.Ent.blk g T m.cells.toArray]) (hm : m.ok) (hx : GoodX w (SX.idsOf [SX.Ent.blk g T m.cells.toArray]) x) (hk : x.k = 3) :
    Calls Try.prog 22 #[.pointer (some ⟨g, 0, none⟩), .agg m.cells.toArray, .agg x.cells.toArray] w (SX.Ret fun v w' => v = .tuple #[.agg ((resolveV m x.t x.lc x.l).1).cells.toArray, .bool true] ∧ SX.St w (SX.idsOf [SX.Ent.blk g T m.cells.toArray]) w' [SX.Ent.blk g T ((resolveV m x.t x.lc x.l).1).cells.toArray]) := by
  generalize hM : SX.idsOf [SX.Ent.blk g T m.cells.toArray] = M at *
  have hone0 := ac_one m
  have hone1 := ax_one x
  have hone := ac_one ((resolveV m x.t x.lc x.l).1)
  have hml := msgL_len m
  have hmb := msgL_by m
  have hlen := hx.len
  refine Z.enter Try.func22 rfl Try.ntmps22 rfl rfl ?_
  refine Z.seq ?_
  refine Z.region ?_
  refine Z.le rfl trivial ?_
  refine Z.ZO.box rfl rfl (by rfl) rfl rfl hs ?_
  clear hs; intro g4 w4 hs
  refine Z.le rfl trivial ?_
  refine Z.ZO.box rfl rfl (by rfl) rfl rfl hs ?_
  clear hs; intro g5 w5 hs
  refine Z.le rfl trivial ?_
  refine Z.ZO.alloc rfl rfl (by rfl) Try.zeroValue51 rfl hs ?_
  clear hs; intro g6 w6 hs
  refine Z.lb 1 rfl ?_
  refine Z.lnil ?_
  refine Z.only [0, 4, 5, 6] rfl ?_
  refine Z.nthen ?_
  refine Z.seq ?_
  refine Z.seq ?_
  refine Z.region ?_
  refine Z.l rfl rfl (by rfl) (Z.keepS hs) (Z.Yd.fieldA (m := 0) rfl (by kernel_rfl)) ?_
  refine Z.l rfl rfl (by rfl) (Z.keepS hs) (Z.Yd.load rfl Try.isAgg3 (fun _ => Z.cellB (cs := x.cells.toArray) (by first | ((repeat (first | exact List.mem_cons_self | refine List.mem_cons_of_mem _ ?_ | refine List.mem_append_right _ ?_)); done) | fail) rfl)) ?_
  refine Z.lnil ?_
  refine Z.only [0, 4, 5, 6, 31] rfl ?_
  refine Z.nthen ?_
  refine Z.block ?_
  refine Z.seq ?_
  refine Z.region ?_
  refine Z.lb 2 rfl ?_
  refine Z.lnil ?_
  refine Z.only [0, 4, 5, 6, 31, 32] rfl ?_
  refine Z.nthen ?_
  refine Z.cond rfl (fun h => absurd h (by simp [hk])) (fun hc2 => ?_)
  refine Z.seq ?_
  refine Z.region ?_
  refine Z.lb 2 rfl ?_
  refine Z.lnil ?_
  refine Z.only [0, 4, 5, 6, 31, 54] rfl ?_
  refine Z.nthen ?_
  refine Z.cond rfl (fun h => absurd h (by simp [hk])) (fun hc6 => ?_)
  refine Z.seq ?_
  refine Z.region ?_
  refine Z.lb 2 rfl ?_
  refine Z.lnil ?_
  refine Z.only [0, 4, 5, 6, 31, 89] rfl ?_
  refine Z.nthen ?_
  refine Z.cond rfl (fun h => absurd h (by simp [hk])) (fun hc10 => ?_)
  refine Z.seq ?_
  refine Z.seq ?_
  refine Z.region ?_
  refine Z.lb 2 rfl ?_
  refine Z.lnil ?_
  refine Z.only [0, 4, 5, 6, 31, 124] rfl ?_
  refine Z.nthen ?_
  refine Z.cond rfl (fun hc14 => ?_) (fun h => absurd h (by simp [hk]))
  refine Z.skip ?_
  refine Z.nthen ?_
  refine Z.cond rfl (fun hc14 => ?_) (fun h => absurd h (by simp [hk]))
  refine Z.seq ?_
  refine Z.region ?_
  refine Z.l rfl rfl (by rfl) (Z.keepS hs) (Z.Yd.fieldA (m := 6) rfl (by kernel_rfl)) ?_
  refine Z.l rfl rfl (by rfl) (Z.keepS hs) (Z.Yd.loadA _ rfl Try.isAgg40 (fun _ => Z.cellsBo (cs := x.cells) [.int .i64 x.lc, .slice x.A x.l.length x.c] (by first | ((repeat (first | exact List.mem_cons_self | refine List.mem_cons_of_mem _ ?_ | refine List.mem_append_right _ ?_)); done) | fail) ⟨[], rfl⟩) (by exact Try.sizeOf40)) ?_
  refine Z.le rfl trivial ?_
  refine Z.ZO.alloc rfl rfl (by rfl) Try.zeroValue40 rfl hs ?_
  clear hs; intro g21 w21 hs
  refine Z.le rfl trivial ?_
  first | refine Z.ZO.storeA rfl rfl hs rfl rfl (by kernel_rfl) (by first | (simp [Value.oneCell']; done) | (refine Z.all_one ?_; assumption)) (by first | exact SX.at0 | exact SX.at1 | exact SX.at2 | exact SX.at3 | exact SX.at4 | exact SX.at5 | exact Z.at6 | exact Z.at7 | exact Z.at8 | exact Z.at9 | exact Z.at10 | exact Z.at11 | exact Z.at12) (by rfl) ?_ | refine Z.ZO.storeP rfl rfl hs rfl rfl (by kernel_rfl) (by first | (simp [Value.oneCell']; done) | (refine Z.all_one ?_; assumption)) (by first | exact SX.at0 | exact SX.at1 | exact SX.at2 | exact SX.at3 | exact SX.at4 | exact SX.at5 | exact Z.at6 | exact Z.at7 | exact Z.at8 | exact Z.at9 | exact Z.at10 | exact Z.at11 | exact Z.at12) (by first | decide | (simp; done) | (simp; omega)) ?_ | refine Z.ZO.storePR rfl rfl hs rfl rfl (by kernel_rfl) (by first | (simp [Value.oneCell']; done) | (refine Z.all_one ?_; assumption)) (by first | exact SX.at0 | exact SX.at1 | exact SX.at2 | exact SX.at3 | exact SX.at4 | exact SX.at5 | exact Z.at6 | exact Z.at7 | exact Z.at8 | exact Z.at9 | exact Z.at10 | exact Z.at11 | exact Z.at12) (by first | decide | (simp; done) | (simp; omega)) ?_
  clear hs; intro ws hs
  simp only [Nat.zero_add, Nat.add_zero, Nat.reduceAdd, Int.reduceToNat, Nat.reduceMul, List.set_cons_zero, List.set_cons_succ, List.setIfInBounds_toArray] at hs
  try simp only [Z.putL, Nat.zero_add] at hs
  refine Z.lnil ?_
  refine Z.only [0, 4, 5, 6, 21] rfl ?_
  replace hs := hs.nil 5 1
  replace hs : SX.St w M _ [_, _, _, _, _, _] := hs.sel [0, 1, 3, 5, 2, 4] (by decide)
  refine Z.nthen ?_
  refine Z.seq ?_
  refine Z.seq ?_
  refine Z.region ?_
  refine Z.l rfl rfl (by rfl) (Z.keepS hs) (Z.Yd.fieldA (m := 0) rfl (by kernel_rfl)) ?_
  refine Z.l rfl rfl (by rfl) (Z.keepS hs) (Z.Yd.load rfl Try.isAgg3 (fun _ => Z.cellB (cs := x.cells.toArray) (by first | ((repeat (first | exact List.mem_cons_self | refine List.mem_cons_of_mem _ ?_ | refine List.mem_append_right _ ?_)); done) | fail) rfl)) ?_
  refine Z.lb 1 rfl ?_
  refine Z.lnil ?_
  refine Z.only [0, 4, 5, 6, 21, 131] rfl ?_
  refine Z.nthen ?_
  refine Z.cond rfl (fun h => absurd h (by simp [hk])) (fun hc17 => ?_)
  refine Z.skip ?_
  refine Z.nthen ?_
  refine Z.seq ?_
  refine Z.drawL [SX.Ent.blk g21 40 #[.int .i64 x.lc, .slice x.A x.l.length x.c], SX.Ent.blk g5 57 x.cells.toArray] (fun _ => true) mixed hs ?_
  clear hs; intro wd19 hs
  refine Z.tb [0] (by kernel_rfl) rfl ⟨_, hs, by first | (simp; done) | exact fun e he => List.mem_append_right _ he⟩ rfl ?_
  refine Z.t 1 rfl rfl rfl (by rfl) (by kernel_rfl) ⟨_, hs, by first | (simp; done) | exact fun e he => List.mem_append_right _ he⟩ (Z.Yd.fieldA (m := 1) rfl (by kernel_rfl)) ?_
  refine Z.t 2 rfl rfl rfl (by rfl) (by kernel_rfl) ⟨_, hs, by first | (simp; done) | exact fun e he => List.mem_append_right _ he⟩ (Z.Yd.load rfl Try.isAgg3 (fun _ => Z.cellB (cs := x.cells.toArray) (by first | ((repeat (first | exact List.mem_cons_self | refine List.mem_cons_of_mem _ ?_ | refine List.mem_append_right _ ?_)); done) | fail) rfl)) ?_
  refine Z.t 3 rfl rfl rfl (by rfl) (by kernel_rfl) ⟨_, hs, by first | (simp; done) | exact fun e he => List.mem_append_right _ he⟩ (Z.Yd.fieldA (m := 0) rfl (by kernel_rfl)) ?_
  refine Z.t 4 rfl rfl rfl (by rfl) (by kernel_rfl) ⟨_, hs, by first | (simp; done) | exact fun e he => List.mem_append_right _ he⟩ (by first | exact Z.Yd.load rfl Try.isAgg3 (fun _ => Z.cellB (by first | ((repeat (first | exact List.mem_cons_self | refine List.mem_cons_of_mem _ ?_ | refine List.mem_append_right _ ?_)); done) | fail) rfl) | exact Z.Yd.load rfl Try.isAgg3 (fun _ => Z.cellO (by assumption) (by simp) (by assumption)) | fail "load 19.4") ?_
  refine Z.t 5 rfl rfl rfl (by rfl) (by kernel_rfl) ⟨_, hs, by first | (simp; done) | exact fun e he => List.mem_append_right _ he⟩ (Z.Yd.fieldA (m := 1) rfl (by kernel_rfl)) ?_
  refine Z.t 6 rfl rfl rfl (by rfl) (by kernel_rfl) ⟨_, hs, by first | (simp; done) | exact fun e he => List.mem_append_right _ he⟩ (by first | exact Z.Yd.load rfl Try.isAgg38 (fun _ => Z.cellB (by first | ((repeat (first | exact List.mem_cons_self | refine List.mem_cons_of_mem _ ?_ | refine List.mem_append_right _ ?_)); done) | fail) rfl) | exact Z.Yd.load rfl Try.isAgg38 (fun _ => Z.cellO (by assumption) (by simp) (by assumption)) | fail "load 19.6") ?_
  refine Z.tn 7 rfl rfl (by kernel_rfl) rfl trivial ?_
  refine Z.ZO.appendG (i0 := Try.t5) (size := 1) (bytes := 1) rfl rfl (by rfl) hs Try.underlying38 (by kernel_rfl) rfl rfl rfl rfl (by decide) rfl rfl (by first | exact SX.at0 | exact SX.at1 | exact SX.at2 | exact SX.at3 | exact SX.at4 | exact SX.at5 | exact Z.at6 | exact Z.at7 | exact Z.at8 | exact Z.at9 | exact Z.at10 | exact Z.at11 | exact Z.at12) ((hx.sx.st hs)) (by first | rfl | assumption | (simp [ints_length]; done) | (simp [ints_length]; omega)) (by first | exact Z.ints_one | assumption | simp [Value.oneCell']) (by unfold maxLen; omega) (by omega) ?_
  clear hs; intro v142 w142 hs
  simp only [List.set_cons_zero, List.set_cons_succ] at hs
  obtain ⟨Br, cr, rfl⟩ : ∃ Br cr, v142 = .slice Br (0 + x.l.length) cr := by
    obtain ⟨B, c, h, -, -, -⟩ := SX.row_slv hs (j := 0) rfl
    exact ⟨B, c, h⟩
  rw [show 0 + x.l.length = x.l.length from Nat.zero_add _] at hs ⊢
  rw [List.nil_append] at hs
  refine Z.tk (Dn := fun _ => true) (i := 7) (fun _ => ⟨_, hs, by first | (simp; done) | exact fun e he => List.mem_append_right _ he⟩) ?_
  refine Z.t 8 rfl rfl rfl (by rfl) (by kernel_rfl) ⟨_, hs, by first | (simp; done) | exact fun e he => List.mem_append_right _ he⟩ (Z.Yd.buildL [(0, 1), (1, 1)] [.int .i64 0, .slice none 0 0] rfl rfl (by intro w; kernel_rfl)) ?_
  replace hs : SX.St w M _ ([SX.Ent.blk g T m.cells.toArray] ++ [_, _, _, _, _]) := hs.sel [3, 0, 1, 2, 4, 5] (by decide)
  refine Z.tn 9 rfl rfl (by kernel_rfl) rfl trivial ?_
  refine Z.ZO.call rfl rfl (by rfl) rfl rfl Try.call16 rfl (ac_resolve g T m x.t x.lc Br x.l.length cr x.l _ hs.lend hm (Z.row_lentv hs (j := 0) rfl) rfl (by omega) hx.by8) ?_
  rintro v19_9 w19_9 ⟨rfl, hz⟩
  replace hs := hs.regain hz
  simp only [List.cons_append, List.nil_append] at hs
  refine Z.tk (Dn := fun _ => true) (i := 9) (fun _ => ⟨_, hs, by first | (simp; done) | exact fun e he => List.mem_append_right _ he⟩) ?_
  refine Z.tb [10, 11, 12, 13, 14] (by kernel_rfl) rfl ⟨_, hs, by first | (simp; done) | exact fun e he => List.mem_append_right _ he⟩ rfl ?_
  refine Z.td (by rfl) (by kernel_rfl) ?_
  refine Z.only [0, 4, 5, 6, 21, 22, 23] rfl ?_
  refine Z.nthen ?_
  refine Z.seq ?_
  refine Z.region ?_
  refine Z.l rfl rfl (by rfl) (Z.keepS hs) (Z.Yd.loadA _ rfl Try.isAgg51 (fun _ => Z.cellsB (cs := m.cells) (by first | ((repeat (first | exact List.mem_cons_self | refine List.mem_cons_of_mem _ ?_ | refine List.mem_append_right _ ?_)); done) | fail)) (by exact Try.sizeOf51)) ?_
  refine Z.l rfl rfl (by rfl) (Z.keepS hs) (Z.Yd.fieldA (m := 1) rfl (by kernel_rfl)) ?_
  refine Z.l rfl rfl (by rfl) (Z.keepS hs) (Z.Yd.load rfl Try.isAgg3 (fun _ => Z.cellB (cs := x.cells.toArray) (by first | ((repeat (first | exact List.mem_cons_self | refine List.mem_cons_of_mem _ ?_ | refine List.mem_append_right _ ?_)); done) | fail) rfl)) ?_
  refine Z.l rfl rfl (by rfl) (Z.keepS hs) (by first | exact Z.Yd.loadA _ rfl Try.isAgg40 (fun _ => Z.cellsB (by first | ((repeat (first | exact List.mem_cons_self | refine List.mem_cons_of_mem _ ?_ | refine List.mem_append_right _ ?_)); done) | fail)) (by exact Try.sizeOf40) | fail "load 20.3") ?_
  refine Z.le rfl trivial ?_
  refine Z.ZO.call rfl rfl (by rfl) rfl rfl Try.call46 rfl (acr_resolve m x.t x.lc x.A x.l.length x.c x.l _ hm (hx.sx.st hs) rfl (by omega) hx.by8) ?_
  rintro v20_4 w20_4 ⟨rfl, hy⟩
  replace hs := hs.call hy
  clear hy
  try simp only [List.cons_append, List.nil_append, List.append_nil] at hs
  refine Z.lb 4 rfl ?_
  refine Z.le rfl trivial ?_
  refine Z.ZO.alloc rfl rfl (by rfl) Try.zeroValue51 rfl hs ?_
  clear hs; intro g24 w24 hs
  refine Z.le rfl trivial ?_
  first | refine Z.ZO.storeA rfl rfl hs rfl rfl (by kernel_rfl) (by first | (simp [Value.oneCell']; done) | (refine Z.all_one ?_; assumption)) (by first | exact SX.at0 | exact SX.at1 | exact SX.at2 | exact SX.at3 | exact SX.at4 | exact SX.at5 | exact Z.at6 | exact Z.at7 | exact Z.at8 | exact Z.at9 | exact Z.at10 | exact Z.at11 | exact Z.at12) (by rfl) ?_ | refine Z.ZO.storeP rfl rfl hs rfl rfl (by kernel_rfl) (by first | (simp [Value.oneCell']; done) | (refine Z.all_one ?_; assumption)) (by first | exact SX.at0 | exact SX.at1 | exact SX.at2 | exact SX.at3 | exact SX.at4 | exact SX.at5 | exact Z.at6 | exact Z.at7 | exact Z.at8 | exact Z.at9 | exact Z.at10 | exact Z.at11 | exact Z.at12) (by first | decide | (simp; done) | (simp; omega)) ?_ | refine Z.ZO.storePR rfl rfl hs rfl rfl (by kernel_rfl) (by first | (simp [Value.oneCell']; done) | (refine Z.all_one ?_; assumption)) (by first | exact SX.at0 | exact SX.at1 | exact SX.at2 | exact SX.at3 | exact SX.at4 | exact SX.at5 | exact Z.at6 | exact Z.at7 | exact Z.at8 | exact Z.at9 | exact Z.at10 | exact Z.at11 | exact Z.at12) (by first | decide | (simp; done) | (simp; omega)) ?_
  clear hs; intro ws hs
  simp only [Nat.zero_add, Nat.add_zero, Nat.reduceAdd, Int.reduceToNat, Nat.reduceMul, List.set_cons_zero, List.set_cons_succ, List.setIfInBounds_toArray] at hs
  try simp only [Z.putL, Nat.zero_add] at hs
  refine Z.lb 2 rfl ?_
  refine Z.lnil ?_
  refine Z.only [0, 6, 22, 23, 24, 25, 26] rfl ?_
  refine Z.nthen ?_
  refine Z.seq ?_
  refine Z.drawL [SX.Ent.blk g24 51 ((resolveV m x.t x.lc x.l).1).cells.toArray, SX.Ent.blk g T ((resolveV m x.t x.lc x.l).1).cells.toArray] (fun _ => true) mixed hs ?_
  clear hs; intro wd21 hs
  refine Z.t 0 rfl rfl rfl (by rfl) (by kernel_rfl) ⟨_, hs, by first | (simp; done) | exact fun e he => List.mem_append_right _ he⟩ (Z.Yd.loadA _ rfl Try.isAgg51 (fun _ => Z.cellsB (cs := (resolveV m x.t x.lc x.l).1.cells) (by first | ((repeat (first | exact List.mem_cons_self | refine List.mem_cons_of_mem _ ?_ | refine List.mem_append_right _ ?_)); done) | fail)) (by exact Try.sizeOf51)) ?_
  refine Z.tb [1, 2] (by kernel_rfl) rfl ⟨_, hs, by first | (simp; done) | exact fun e he => List.mem_append_right _ he⟩ rfl ?_
  refine Z.t 3 rfl rfl rfl (by rfl) (by kernel_rfl) ⟨_, hs, by first | (simp; done) | exact fun e he => List.mem_append_right _ he⟩ (Z.Yd.bin rfl rfl (by intro _ w; go_simp; try rfl)) ?_
  refine Z.tb [4, 5, 6, 7, 8, 9, 10] (by kernel_rfl) rfl ⟨_, hs, by first | (simp; done) | exact fun e he => List.mem_append_right _ he⟩ rfl ?_
  refine Z.t 11 rfl rfl rfl (by rfl) (by kernel_rfl) ⟨_, hs, by first | (simp; done) | exact fun e he => List.mem_append_right _ he⟩ (Z.Yd.loadA _ rfl Try.isAgg51 (fun _ => Z.cellsB (cs := (resolveV m x.t x.lc x.l).1.cells) (by first | ((repeat (first | exact List.mem_cons_self | refine List.mem_cons_of_mem _ ?_ | refine List.mem_append_right _ ?_)); done) | fail)) (by exact Try.sizeOf51)) ?_
  refine Z.yes (s := 165) (b := true) rfl (by simp) rfl ?_
  refine Z.tn 12 rfl rfl (by kernel_rfl) rfl (by exact ⟨rfl, trivial⟩) ?_
  refine Z.ZO.call rfl rfl (by rfl) rfl rfl Try.call21 rfl (ac_agrees g (resolveV m x.t x.lc x.l).1 _ (hs.celOf (cs := (resolveV m x.t x.lc x.l).1.cells) (by first | ((repeat (first | exact List.mem_cons_self | refine List.mem_cons_of_mem _ ?_ | refine List.mem_append_right _ ?_)); done) | fail)) (hm.resolve _ _ _).cfg) ?_
  rintro v21_12 w21_12 ⟨rfl, hy⟩
  replace hs := hs.call hy
  clear hy
  try simp only [List.cons_append, List.nil_append, List.append_nil] at hs
  refine Z.tk (Dn := fun _ => true) (i := 12) (fun _ => ⟨_, hs, by first | (simp; done) | exact fun e he => List.mem_append_right _ he⟩) ?_
  refine Z.tb [13] (by kernel_rfl) rfl ⟨_, hs, by first | (simp; done) | exact fun e he => List.mem_append_right _ he⟩ rfl ?_
  refine Z.tn 14 rfl rfl (by kernel_rfl) rfl trivial ?_
  first | refine Z.ZO.storeA rfl rfl hs rfl rfl (by kernel_rfl) (by first | (simp [Value.oneCell']; done) | (refine Z.all_one ?_; assumption)) (by first | exact SX.at0 | exact SX.at1 | exact SX.at2 | exact SX.at3 | exact SX.at4 | exact SX.at5 | exact Z.at6 | exact Z.at7 | exact Z.at8 | exact Z.at9 | exact Z.at10 | exact Z.at11 | exact Z.at12) (by rfl) ?_ | refine Z.ZO.storeP rfl rfl hs rfl rfl (by kernel_rfl) (by first | (simp [Value.oneCell']; done) | (refine Z.all_one ?_; assumption)) (by first | exact SX.at0 | exact SX.at1 | exact SX.at2 | exact SX.at3 | exact SX.at4 | exact SX.at5 | exact Z.at6 | exact Z.at7 | exact Z.at8 | exact Z.at9 | exact Z.at10 | exact Z.at11 | exact Z.at12) (by first | decide | (simp; done) | (simp; omega)) ?_ | refine Z.ZO.storePR rfl rfl hs rfl rfl (by kernel_rfl) (by first | (simp [Value.oneCell']; done) | (refine Z.all_one ?_; assumption)) (by first | exact SX.at0 | exact SX.at1 | exact SX.at2 | exact SX.at3 | exact SX.at4 | exact SX.at5 | exact Z.at6 | exact Z.at7 | exact Z.at8 | exact Z.at9 | exact Z.at10 | exact Z.at11 | exact Z.at12) (by first | decide | (simp; done) | (simp; omega)) ?_
  clear hs; intro ws hs
  simp only [Nat.zero_add, Nat.add_zero, Nat.reduceAdd, Int.reduceToNat, Nat.reduceMul, List.set_cons_zero, List.set_cons_succ, List.setIfInBounds_toArray] at hs
  try simp only [Z.putL, Nat.zero_add] at hs
  refine Z.tk (Dn := fun _ => true) (i := 14) (fun _ => ⟨_, hs, by first | (simp; done) | exact fun e he => List.mem_append_right _ he⟩) ?_
  refine Z.tb [15] (by kernel_rfl) rfl ⟨_, hs, by first | (simp; done) | exact fun e he => List.mem_append_right _ he⟩ rfl ?_
  refine Z.td (by rfl) (by kernel_rfl) ?_
  refine Z.only [6, 7] rfl ?_
  refine Z.nthen ?_
  refine Z.ret ?_
  repeat (first | refine Z.rthen ?_ | refine Z.rblock ?_ | refine Z.rscope ?_)
  -- ret#0
  refine Z.out2 (by exact ⟨⟨_, rfl, Z.rvcA hs Try.isAgg51 (by first | ((repeat (first | exact List.mem_cons_self | refine List.mem_cons_of_mem _ ?_ | refine List.mem_append_right _ ?_)); done) | fail) (by exact Try.sizeOf51)⟩, rfl, trivial⟩) ?_
  exact ⟨_, rfl, rfl, hs.sel [1] (by decide)⟩
set_option maxHeartbeats 1000000 in
set_option maxRecDepth 100000 in
theorem ac_do5 (g T : Nat) (m : AcV) (x : AxV) (w : World) (hs : SX.St w (SX.idsOf [SX.Ent.blk g T m.cells.toArray]) w [SX.Ent.blk g T m.cells.toArray]) (hm : m.ok) (hx : GoodX w (SX.idsOf [SX.Ent.blk g T m.cells.toArray]) x) (hk : x.k = 5) :
    Calls Try.prog 22 #[.pointer (some ⟨g, 0, none⟩), .agg m.cells.toArray, .agg x.cells.toArray] w (SX.Ret fun v w' => v = .tuple #[.agg ((resolveV m x.t (msgC m) (msgL m)).1).cells.toArray, .bool true] ∧ SX.St w (SX.idsOf [SX.Ent.blk g T m.cells.toArray]) w' [SX.Ent.blk g T ((resolveV m x.t (msgC m) (msgL m)).1).cells.toArray]) := by
  generalize hM : SX.idsOf [SX.Ent.blk g T m.cells.toArray] = M at *
  have hone0 := ac_one m
  have hone1 := ax_one x
  have hone := ac_one ((resolveV m x.t (msgC m) (msgL m)).1)
  have hml := msgL_len m
  have hmb := msgL_by m
  have hlen := hx.len
  refine Z.enter Try.func22 rfl Try.ntmps22 rfl rfl ?_
  refine Z.seq ?_
  refine Z.region ?_
  refine Z.le rfl trivial ?_
  refine Z.ZO.box rfl rfl (by rfl) rfl rfl hs ?_
  clear hs; intro g4 w4 hs
  refine Z.le rfl trivial ?_
  refine Z.ZO.box rfl rfl (by rfl) rfl rfl hs ?_
  clear hs; intro g5 w5 hs
  refine Z.le rfl trivial ?_
  refine Z.ZO.alloc rfl rfl (by rfl) Try.zeroValue51 rfl hs ?_
  clear hs; intro g6 w6 hs
  refine Z.lb 1 rfl ?_
  refine Z.lnil ?_
  refine Z.only [0, 4, 5, 6] rfl ?_
  refine Z.nthen ?_
  refine Z.seq ?_
  refine Z.seq ?_
  refine Z.region ?_
  refine Z.l rfl rfl (by rfl) (Z.keepS hs) (Z.Yd.fieldA (m := 0) rfl (by kernel_rfl)) ?_
  refine Z.l rfl rfl (by rfl) (Z.keepS hs) (Z.Yd.load rfl Try.isAgg3 (fun _ => Z.cellB (cs := x.cells.toArray) (by first | ((repeat (first | exact List.mem_cons_self | refine List.mem_cons_of_mem _ ?_ | refine List.mem_append_right _ ?_)); done) | fail) rfl)) ?_
  refine Z.lnil ?_
  refine Z.only [0, 4, 5, 6, 31] rfl ?_
  refine Z.nthen ?_
  refine Z.block ?_
  refine Z.seq ?_
  refine Z.region ?_
  refine Z.lb 2 rfl ?_
  refine Z.lnil ?_
  refine Z.only [0, 4, 5, 6, 31, 32] rfl ?_
  refine Z.nthen ?_
  refine Z.cond rfl (fun h => absurd h (by simp [hk])) (fun hc2 => ?_)
  refine Z.seq ?_
  refine Z.region ?_
  refine Z.lb 2 rfl ?_
  refine Z.lnil ?_
  refine Z.only [0, 4, 5, 6, 31, 54] rfl ?_
  refine Z.nthen ?_
  refine Z.cond rfl (fun h => absurd h (by simp [hk])) (fun hc6 => ?_)
  refine Z.seq ?_
  refine Z.region ?_
  refine Z.lb 2 rfl ?_
  refine Z.lnil ?_
  refine Z.only [0, 4, 5, 6, 31, 89] rfl ?_
  refine Z.nthen ?_
  refine Z.cond rfl (fun h => absurd h (by simp [hk])) (fun hc10 => ?_)
  refine Z.seq ?_
  refine Z.seq ?_
  refine Z.region ?_
  refine Z.lb 2 rfl ?_
  refine Z.lnil ?_
  refine Z.only [0, 4, 5, 6, 31, 124] rfl ?_
  refine Z.nthen ?_
  refine Z.cond rfl (fun h => absurd h (by simp [hk])) (fun hc14 => ?_)
  refine Z.region ?_
  refine Z.lb 2 rfl ?_
  refine Z.lnil ?_
  refine Z.only [0, 4, 5, 6, 31, 124] rfl ?_
  refine Z.nthen ?_
  refine Z.cond rfl (fun hc15 => ?_) (fun h => absurd h (by simp [hk]))
  refine Z.seq ?_
  refine Z.region ?_
  refine Z.l rfl rfl (by rfl) (Z.keepS hs) (Z.Yd.fieldA (m := 6) rfl (by kernel_rfl)) ?_
  refine Z.l rfl rfl (by rfl) (Z.keepS hs) (Z.Yd.loadA _ rfl Try.isAgg40 (fun _ => Z.cellsBo (cs := x.cells) [.int .i64 x.lc, .slice x.A x.l.length x.c] (by first | ((repeat (first | exact List.mem_cons_self | refine List.mem_cons_of_mem _ ?_ | refine List.mem_append_right _ ?_)); done) | fail) ⟨[], rfl⟩) (by exact Try.sizeOf40)) ?_
  refine Z.le rfl trivial ?_
  refine Z.ZO.alloc rfl rfl (by rfl) Try.zeroValue40 rfl hs ?_
  clear hs; intro g21 w21 hs
  refine Z.le rfl trivial ?_
  first | refine Z.ZO.storeA rfl rfl hs rfl rfl (by kernel_rfl) (by first | (simp [Value.oneCell']; done) | (refine Z.all_one ?_; assumption)) (by first | exact SX.at0 | exact SX.at1 | exact SX.at2 | exact SX.at3 | exact SX.at4 | exact SX.at5 | exact Z.at6 | exact Z.at7 | exact Z.at8 | exact Z.at9 | exact Z.at10 | exact Z.at11 | exact Z.at12) (by rfl) ?_ | refine Z.ZO.storeP rfl rfl hs rfl rfl (by kernel_rfl) (by first | (simp [Value.oneCell']; done) | (refine Z.all_one ?_; assumption)) (by first | exact SX.at0 | exact SX.at1 | exact SX.at2 | exact SX.at3 | exact SX.at4 | exact SX.at5 | exact Z.at6 | exact Z.at7 | exact Z.at8 | exact Z.at9 | exact Z.at10 | exact Z.at11 | exact Z.at12) (by first | decide | (simp; done) | (simp; omega)) ?_ | refine Z.ZO.storePR rfl rfl hs rfl rfl (by kernel_rfl) (by first | (simp [Value.oneCell']; done) | (refine Z.all_one ?_; assumption)) (by first | exact SX.at0 | exact SX.at1 | exact SX.at2 | exact SX.at3 | exact SX.at4 | exact SX.at5 | exact Z.at6 | exact Z.at7 | exact Z.at8 | exact Z.at9 | exact Z.at10 | exact Z.at11 | exact Z.at12) (by first | decide | (simp; done) | (simp; omega)) ?_
  clear hs; intro ws hs
  simp only [Nat.zero_add, Nat.add_zero, Nat.reduceAdd, Int.reduceToNat, Nat.reduceMul, List.set_cons_zero, List.set_cons_succ, List.setIfInBounds_toArray] at hs
  try simp only [Z.putL, Nat.zero_add] at hs
  refine Z.lnil ?_
  refine Z.only [0, 4, 5, 6, 21] rfl ?_
  refine Z.nthen ?_
  refine Z.seq ?_
  refine Z.seq ?_
  refine Z.region ?_
  refine Z.l rfl rfl (by rfl) (Z.keepS hs) (Z.Yd.fieldA (m := 0) rfl (by kernel_rfl)) ?_
  refine Z.l rfl rfl (by rfl) (Z.keepS hs) (Z.Yd.load rfl Try.isAgg3 (fun _ => Z.cellB (cs := x.cells.toArray) (by first | ((repeat (first | exact List.mem_cons_self | refine List.mem_cons_of_mem _ ?_ | refine List.mem_append_right _ ?_)); done) | fail) rfl)) ?_
  refine Z.lb 1 rfl ?_
  refine Z.lnil ?_
  refine Z.only [0, 4, 5, 6, 21, 131] rfl ?_
  refine Z.nthen ?_
  refine Z.cond rfl (fun hc17 => ?_) (fun h => absurd h (by simp [hk]))
  refine Z.region ?_
  refine Z.l rfl rfl (by rfl) (Z.keepS hs) (Z.Yd.loadA _ rfl Try.isAgg51 (fun _ => Z.cellsB (cs := m.cells) (by first | ((repeat (first | exact List.mem_cons_self | refine List.mem_cons_of_mem _ ?_ | refine List.mem_append_right _ ?_)); done) | fail)) (by exact Try.sizeOf51)) ?_
  refine Z.le rfl trivial ?_
  refine Z.ZO.call rfl rfl (by rfl) rfl rfl Try.call42 rfl (acr_message m _ hm.cfg) ?_
  rintro v18_1 w18_1 ⟨Bm, cm, com, rfl, hy⟩
  replace hs := hs.call hy
  clear hy
  try simp only [List.cons_append, List.nil_append, List.append_nil] at hs
  refine Z.le rfl trivial ?_
  first | refine Z.ZO.storeA rfl rfl hs rfl rfl (by kernel_rfl) (by first | (simp [Value.oneCell']; done) | (refine Z.all_one ?_; assumption)) (by first | exact SX.at0 | exact SX.at1 | exact SX.at2 | exact SX.at3 | exact SX.at4 | exact SX.at5 | exact Z.at6 | exact Z.at7 | exact Z.at8 | exact Z.at9 | exact Z.at10 | exact Z.at11 | exact Z.at12) (by rfl) ?_ | refine Z.ZO.storeP rfl rfl hs rfl rfl (by kernel_rfl) (by first | (simp [Value.oneCell']; done) | (refine Z.all_one ?_; assumption)) (by first | exact SX.at0 | exact SX.at1 | exact SX.at2 | exact SX.at3 | exact SX.at4 | exact SX.at5 | exact Z.at6 | exact Z.at7 | exact Z.at8 | exact Z.at9 | exact Z.at10 | exact Z.at11 | exact Z.at12) (by first | decide | (simp; done) | (simp; omega)) ?_ | refine Z.ZO.storePR rfl rfl hs rfl rfl (by kernel_rfl) (by first | (simp [Value.oneCell']; done) | (refine Z.all_one ?_; assumption)) (by first | exact SX.at0 | exact SX.at1 | exact SX.at2 | exact SX.at3 | exact SX.at4 | exact SX.at5 | exact Z.at6 | exact Z.at7 | exact Z.at8 | exact Z.at9 | exact Z.at10 | exact Z.at11 | exact Z.at12) (by first | decide | (simp; done) | (simp; omega)) ?_
  clear hs; intro ws hs
  simp only [Nat.zero_add, Nat.add_zero, Nat.reduceAdd, Int.reduceToNat, Nat.reduceMul, List.set_cons_zero, List.set_cons_succ, List.setIfInBounds_toArray] at hs
  try simp only [Z.putL, Nat.zero_add] at hs
  refine Z.lnil ?_
  refine Z.only [0, 4, 5, 6, 21] rfl ?_
  replace hs := hs.nil 5 1
  replace hs : SX.St w M _ [_, _, _, _, _, _, _] := hs.sel [0, 2, 4, 6, 3, 5, 1] (by decide)
  refine Z.nthen ?_
  refine Z.seq ?_
  refine Z.drawL [SX.Ent.blk g21 40 #[.int .i64 (msgC m), .slice Bm (msgL m).length cm], SX.Ent.blk g5 57 x.cells.toArray] (fun _ => true) mixed hs ?_
  clear hs; intro wd19 hs
  refine Z.tb [0] (by kernel_rfl) rfl ⟨_, hs, by first | (simp; done) | exact fun e he => List.mem_append_right _ he⟩ rfl ?_
  refine Z.t 1 rfl rfl rfl (by rfl) (by kernel_rfl) ⟨_, hs, by first | (simp; done) | exact fun e he => List.mem_append_right _ he⟩ (Z.Yd.fieldA (m := 1) rfl (by kernel_rfl)) ?_
  refine Z.t 2 rfl rfl rfl (by rfl) (by kernel_rfl) ⟨_, hs, by first | (simp; done) | exact fun e he => List.mem_append_right _ he⟩ (Z.Yd.load rfl Try.isAgg3 (fun _ => Z.cellB (cs := x.cells.toArray) (by first | ((repeat (first | exact List.mem_cons_self | refine List.mem_cons_of_mem _ ?_ | refine List.mem_append_right _ ?_)); done) | fail) rfl)) ?_
  refine Z.t 3 rfl rfl rfl (by rfl) (by kernel_rfl) ⟨_, hs, by first | (simp; done) | exact fun e he => List.mem_append_right _ he⟩ (Z.Yd.fieldA (m := 0) rfl (by kernel_rfl)) ?_
  refine Z.t 4 rfl rfl rfl (by rfl) (by kernel_rfl) ⟨_, hs, by first | (simp; done) | exact fun e he => List.mem_append_right _ he⟩ (by first | exact Z.Yd.load rfl Try.isAgg3 (fun _ => Z.cellB (by first | ((repeat (first | exact List.mem_cons_self | refine List.mem_cons_of_mem _ ?_ | refine List.mem_append_right _ ?_)); done) | fail) rfl) | exact Z.Yd.load rfl Try.isAgg3 (fun _ => Z.cellO (by assumption) (by simp) (by assumption)) | fail "load 19.4") ?_
  refine Z.t 5 rfl rfl rfl (by rfl) (by kernel_rfl) ⟨_, hs, by first | (simp; done) | exact fun e he => List.mem_append_right _ he⟩ (Z.Yd.fieldA (m := 1) rfl (by kernel_rfl)) ?_
  refine Z.t 6 rfl rfl rfl (by rfl) (by kernel_rfl) ⟨_, hs, by first | (simp; done) | exact fun e he => List.mem_append_right _ he⟩ (by first | exact Z.Yd.load rfl Try.isAgg38 (fun _ => Z.cellB (by first | ((repeat (first | exact List.mem_cons_self | refine List.mem_cons_of_mem _ ?_ | refine List.mem_append_right _ ?_)); done) | fail) rfl) | exact Z.Yd.load rfl Try.isAgg38 (fun _ => Z.cellO (by assumption) (by simp) (by assumption)) | fail "load 19.6") ?_
  refine Z.tn 7 rfl rfl (by kernel_rfl) rfl trivial ?_
  refine Z.ZO.appendG (i0 := Try.t5) (size := 1) (bytes := 1) rfl rfl (by rfl) hs Try.underlying38 (by kernel_rfl) rfl rfl rfl rfl (by decide) rfl rfl (by first | exact SX.at0 | exact SX.at1 | exact SX.at2 | exact SX.at3 | exact SX.at4 | exact SX.at5 | exact Z.at6 | exact Z.at7 | exact Z.at8 | exact Z.at9 | exact Z.at10 | exact Z.at11 | exact Z.at12) ((hs.slm (A := Bm) (by first | ((repeat (first | exact List.mem_cons_self | refine List.mem_cons_of_mem _ ?_ | refine List.mem_append_right _ ?_)); done) | fail))) (by first | rfl | assumption | (simp [ints_length]; done) | (simp [ints_length]; omega)) (by first | exact Z.ints_one | assumption | simp [Value.oneCell']) (by unfold maxLen; omega) (by omega) ?_
  clear hs; intro v142 w142 hs
  simp only [List.set_cons_zero, List.set_cons_succ] at hs
  obtain ⟨Br, cr, rfl⟩ : ∃ Br cr, v142 = .slice Br (0 + (msgL m).length) cr := by
    obtain ⟨B, c, h, -, -, -⟩ := SX.row_slv hs (j := 0) rfl
    exact ⟨B, c, h⟩
  rw [show 0 + (msgL m).length = (msgL m).length from Nat.zero_add _] at hs ⊢
  rw [List.nil_append] at hs
  refine Z.tk (Dn := fun _ => true) (i := 7) (fun _ => ⟨_, hs, by first | (simp; done) | exact fun e he => List.mem_append_right _ he⟩) ?_
  refine Z.t 8 rfl rfl rfl (by rfl) (by kernel_rfl) ⟨_, hs, by first | (simp; done) | exact fun e he => List.mem_append_right _ he⟩ (Z.Yd.buildL [(0, 1), (1, 1)] [.int .i64 0, .slice none 0 0] rfl rfl (by intro w; kernel_rfl)) ?_
  replace hs : SX.St w M _ ([SX.Ent.blk g T m.cells.toArray] ++ [_, _, _, _, _, _]) := hs.sel [3, 0, 1, 2, 4, 5, 6] (by decide)
  refine Z.tn 9 rfl rfl (by kernel_rfl) rfl trivial ?_
  refine Z.ZO.call rfl rfl (by rfl) rfl rfl Try.call16 rfl (ac_resolve g T m x.t (msgC m) Br (msgL m).length cr (msgL m) _ hs.lend hm (Z.row_lentv hs (j := 0) rfl) rfl (by omega) hmb) ?_
  rintro v19_9 w19_9 ⟨rfl, hz⟩
  replace hs := hs.regain hz
  simp only [List.cons_append, List.nil_append] at hs
  refine Z.tk (Dn := fun _ => true) (i := 9) (fun _ => ⟨_, hs, by first | (simp; done) | exact fun e he => List.mem_append_right _ he⟩) ?_
  refine Z.tb [10, 11, 12, 13, 14] (by kernel_rfl) rfl ⟨_, hs, by first | (simp; done) | exact fun e he => List.mem_append_right _ he⟩ rfl ?_
  refine Z.td (by rfl) (by kernel_rfl) ?_
  refine Z.only [0, 4, 5, 6, 21, 22, 23] rfl ?_
  refine Z.nthen ?_
  refine Z.seq ?_
  refine Z.region ?_
  refine Z.l rfl rfl (by rfl) (Z.keepS hs) (Z.Yd.loadA _ rfl Try.isAgg51 (fun _ => Z.cellsB (cs := m.cells) (by first | ((repeat (first | exact List.mem_cons_self | refine List.mem_cons_of_mem _ ?_ | refine List.mem_append_right _ ?_)); done) | fail)) (by exact Try.sizeOf51)) ?_
  refine Z.l rfl rfl (by rfl) (Z.keepS hs) (Z.Yd.fieldA (m := 1) rfl (by kernel_rfl)) ?_
  refine Z.l rfl rfl (by rfl) (Z.keepS hs) (Z.Yd.load rfl Try.isAgg3 (fun _ => Z.cellB (cs := x.cells.toArray) (by first | ((repeat (first | exact List.mem_cons_self | refine List.mem_cons_of_mem _ ?_ | refine List.mem_append_right _ ?_)); done) | fail) rfl)) ?_
  refine Z.l rfl rfl (by rfl) (Z.keepS hs) (by first | exact Z.Yd.loadA _ rfl Try.isAgg40 (fun _ => Z.cellsB (by first | ((repeat (first | exact List.mem_cons_self | refine List.mem_cons_of_mem _ ?_ | refine List.mem_append_right _ ?_)); done) | fail)) (by exact Try.sizeOf40) | fail "load 20.3") ?_
  refine Z.le rfl trivial ?_
  refine Z.ZO.call rfl rfl (by rfl) rfl rfl Try.call46 rfl (acr_resolve m x.t (msgC m) Bm (msgL m).length cm (msgL m) _ hm (hs.slm (A := Bm) (by first | ((repeat (first | exact List.mem_cons_self | refine List.mem_cons_of_mem _ ?_ | refine List.mem_append_right _ ?_)); done) | fail)) rfl (by omega) hmb) ?_
  rintro v20_4 w20_4 ⟨rfl, hy⟩
  replace hs := hs.call hy
  clear hy
  try simp only [List.cons_append, List.nil_append, List.append_nil] at hs
  refine Z.lb 4 rfl ?_
  refine Z.le rfl trivial ?_
  refine Z.ZO.alloc rfl rfl (by rfl) Try.zeroValue51 rfl hs ?_
  clear hs; intro g24 w24 hs
  refine Z.le rfl trivial ?_
  first | refine Z.ZO.storeA rfl rfl hs rfl rfl (by kernel_rfl) (by first | (simp [Value.oneCell']; done) | (refine Z.all_one ?_; assumption)) (by first | exact SX.at0 | exact SX.at1 | exact SX.at2 | exact SX.at3 | exact SX.at4 | exact SX.at5 | exact Z.at6 | exact Z.at7 | exact Z.at8 | exact Z.at9 | exact Z.at10 | exact Z.at11 | exact Z.at12) (by rfl) ?_ | refine Z.ZO.storeP rfl rfl hs rfl rfl (by kernel_rfl) (by first | (simp [Value.oneCell']; done) | (refine Z.all_one ?_; assumption)) (by first | exact SX.at0 | exact SX.at1 | exact SX.at2 | exact SX.at3 | exact SX.at4 | exact SX.at5 | exact Z.at6 | exact Z.at7 | exact Z.at8 | exact Z.at9 | exact Z.at10 | exact Z.at11 | exact Z.at12) (by first | decide | (simp; done) | (simp; omega)) ?_ | refine Z.ZO.storePR rfl rfl hs rfl rfl (by kernel_rfl) (by first | (simp [Value.oneCell']; done) | (refine Z.all_one ?_; assumption)) (by first | exact SX.at0 | exact SX.at1 | exact SX.at2 | exact SX.at3 | exact SX.at4 | exact SX.at5 | exact Z.at6 | exact Z.at7 | exact Z.at8 | exact Z.at9 | exact Z.at10 | exact Z.at11 | exact Z.at12) (by first | decide | (simp; done) | (simp; omega)) ?_
  clear hs; intro ws hs
  simp only [Nat.zero_add, Nat.add_zero, Nat.reduceAdd, Int.reduceToNat, Nat.reduceMul, List.set_cons_zero, List.set_cons_succ, List.setIfInBounds_toArray] at hs
  try simp only [Z.putL, Nat.zero_add] at hs
  refine Z.lb 2 rfl ?_
  refine Z.lnil ?_
  refine Z.only [0, 6, 22, 23, 24, 25, 26] rfl ?_
  refine Z.nthen ?_
  refine Z.seq ?_
  refine Z.drawL [SX.Ent.blk g24 51 ((resolveV m x.t (msgC m) (msgL m)).1).cells.toArray, SX.Ent.blk g T ((resolveV m x.t (msgC m) (msgL m)).1).cells.toArray] (fun _ => true) mixed hs ?_
  clear hs; intro wd21 hs
  refine Z.t 0 rfl rfl rfl (by rfl) (by kernel_rfl) ⟨_, hs, by first | (simp; done) | exact fun e he => List.mem_append_right _ he⟩ (Z.Yd.loadA _ rfl Try.isAgg51 (fun _ => Z.cellsB (cs := (resolveV m x.t (msgC m) (msgL m)).1.cells) (by first | ((repeat (first | exact List.mem_cons_self | refine List.mem_cons_of_mem _ ?_ | refine List.mem_append_right _ ?_)); done) | fail)) (by exact Try.sizeOf51)) ?_
  refine Z.tb [1, 2] (by kernel_rfl) rfl ⟨_, hs, by first | (simp; done) | exact fun e he => List.mem_append_right _ he⟩ rfl ?_
  refine Z.t 3 rfl rfl rfl (by rfl) (by kernel_rfl) ⟨_, hs, by first | (simp; done) | exact fun e he => List.mem_append_right _ he⟩ (Z.Yd.bin rfl rfl (by intro _ w; go_simp; try rfl)) ?_
  refine Z.tb [4, 5, 6, 7, 8, 9, 10] (by kernel_rfl) rfl ⟨_, hs, by first | (simp; done) | exact fun e he => List.mem_append_right _ he⟩ rfl ?_
  refine Z.t 11 rfl rfl rfl (by rfl) (by kernel_rfl) ⟨_, hs, by first | (simp; done) | exact fun e he => List.mem_append_right _ he⟩ (Z.Yd.loadA _ rfl Try.isAgg51 (fun _ => Z.cellsB (cs := (resolveV m x.t (msgC m) (msgL m)).1.cells) (by first | ((repeat (first | exact List.mem_cons_self | refine List.mem_cons_of_mem _ ?_ | refine List.mem_append_right _ ?_)); done) | fail)) (by exact Try.sizeOf51)) ?_
  refine Z.yes (s := 165) (b := true) rfl (by simp) rfl ?_
  refine Z.tn 12 rfl rfl (by kernel_rfl) rfl (by exact ⟨rfl, trivial⟩) ?_
  refine Z.ZO.call rfl rfl (by rfl) rfl rfl Try.call21 rfl (ac_agrees g (resolveV m x.t (msgC m) (msgL m)).1 _ (hs.celOf (cs := (resolveV m x.t (msgC m) (msgL m)).1.cells) (by first | ((repeat (first | exact List.mem_cons_self | refine List.mem_cons_of_mem _ ?_ | refine List.mem_append_right _ ?_)); done) | fail)) (hm.resolve _ _ _).cfg) ?_
  rintro v21_12 w21_12 ⟨rfl, hy⟩
  replace hs := hs.call hy
  clear hy
  try simp only [List.cons_append, List.nil_append, List.append_nil] at hs
  refine Z.tk (Dn := fun _ => true) (i := 12) (fun _ => ⟨_, hs, by first | (simp; done) | exact fun e he => List.mem_append_right _ he⟩) ?_
  refine Z.tb [13] (by kernel_rfl) rfl ⟨_, hs, by first | (simp; done) | exact fun e he => List.mem_append_right _ he⟩ rfl ?_
  refine Z.tn 14 rfl rfl (by kernel_rfl) rfl trivial ?_
  first | refine Z.ZO.storeA rfl rfl hs rfl rfl (by kernel_rfl) (by first | (simp [Value.oneCell']; done) | (refine Z.all_one ?_; assumption)) (by first | exact SX.at0 | exact SX.at1 | exact SX.at2 | exact SX.at3 | exact SX.at4 | exact SX.at5 | exact Z.at6 | exact Z.at7 | exact Z.at8 | exact Z.at9 | exact Z.at10 | exact Z.at11 | exact Z.at12) (by rfl) ?_ | refine Z.ZO.storeP rfl rfl hs rfl rfl (by kernel_rfl) (by first | (simp [Value.oneCell']; done) | (refine Z.all_one ?_; assumption)) (by first | exact SX.at0 | exact SX.at1 | exact SX.at2 | exact SX.at3 | exact SX.at4 | exact SX.at5 | exact Z.at6 | exact Z.at7 | exact Z.at8 | exact Z.at9 | exact Z.at10 | exact Z.at11 | exact Z.at12) (by first | decide | (simp; done) | (simp; omega)) ?_ | refine Z.ZO.storePR rfl rfl hs rfl rfl (by kernel_rfl) (by first | (simp [Value.oneCell']; done) | (refine Z.all_one ?_; assumption)) (by first | exact SX.at0 | exact SX.at1 | exact SX.at2 | exact SX.at3 | exact SX.at4 | exact SX.at5 | exact Z.at6 | exact Z.at7 | exact Z.at8 | exact Z.at9 | exact Z.at10 | exact Z.at11 | exact Z.at12) (by first | decide | (simp; done) | (simp; omega)) ?_
  clear hs; intro ws hs
  simp only [Nat.zero_add, Nat.add_zero, Nat.reduceAdd, Int.reduceToNat, Nat.reduceMul, List.set_cons_zero, List.set_cons_succ, List.setIfInBounds_toArray] at hs
  try simp only [Z.putL, Nat.zero_add] at hs
  refine Z.tk (Dn := fun _ => true) (i := 14) (fun _ => ⟨_, hs, by first | (simp; done) | exact fun e he => List.mem_append_right _ he⟩) ?_
  refine Z.tb [15] (by kernel_rfl) rfl ⟨_, hs, by first | (simp; done) | exact fun e he => List.mem_append_right _ he⟩ rfl ?_
  refine Z.td (by rfl) (by kernel_rfl) ?_
  refine Z.only [6, 7] rfl ?_
  refine Z.nthen ?_
  refine Z.ret ?_
  repeat (first | refine Z.rthen ?_ | refine Z.rblock ?_ | refine Z.rscope ?_)
  -- ret#0
  refine Z.out2 (by exact ⟨⟨_, rfl, Z.rvcA hs Try.isAgg51 (by first | ((repeat (first | exact List.mem_cons_self | refine List.mem_cons_of_mem _ ?_ | refine List.mem_append_right _ ?_)); done) | fail) (by exact Try.sizeOf51)⟩, rfl, trivial⟩) ?_
  exact ⟨_, rfl, rfl, hs.sel [1] (by decide)⟩
theorem ac_do (g T : Nat) (m : AcV) (x : AxV) (w : World) (hs : SX.St w (SX.idsOf [SX.Ent.blk g T m.cells.toArray]) w [SX.Ent.blk g T m.cells.toArray]) (hm : m.ok) (hx : GoodX w (SX.idsOf [SX.Ent.blk g T m.cells.toArray]) x) :
    Calls Try.prog 22 #[.pointer (some ⟨g, 0, none⟩), .agg m.cells.toArray, .agg x.cells.toArray] w (SX.Ret fun v w' => v = .tuple #[.agg (doV m x).cells.toArray, .bool true] ∧ SX.St w (SX.idsOf [SX.Ent.blk g T m.cells.toArray]) w' [SX.Ent.blk g T (doV m x).cells.toArray]) := by
  unfold doV
  by_cases h0 : x.k = 0
  · rw [if_pos h0]; exact ac_do0 g T m x w hs hm hx h0
  rw [if_neg h0]
  by_cases h1 : x.k = 1
  · rw [if_pos h1]; exact ac_do1 g T m x w hs hm hx h1
  rw [if_neg h1]
  by_cases h2 : x.k = 2
  · rw [if_pos h2]; exact ac_do2 g T m x w hs hm hx h2
  rw [if_neg h2]
  by_cases h3 : x.k = 3
  · rw [if_pos h3]; exact ac_do3 g T m x w hs hm hx h3
  rw [if_neg h3]
  by_cases h5 : x.k = 5
  · rw [if_pos h5]; exact ac_do5 g T m x w hs hm hx h5
  rw [if_neg h5]
  by_cases h4 : x.k = 4
  · rw [if_pos h4]; exact ac_do4 g T m x w hs hm hx h4
  rw [if_neg h4]
  exact ac_doN g T m x w hs hm hx ⟨h0, h1, h2, h3, h4, h5⟩
end Go.Proofs.Ytjgfooakcljddaa

/- Random access of a handset: the examples of the chapter. -/
namespace Go.Proofs.Ytjgfooakcljddaa
open Go.RowKit
set_option linter.unusedSimpArgs false
set_option linter.unusedVariables false
--newlaws

theorem ac_newT (i r n c x : Int) (w : World) (hi : 0 ≤ i) (h : (newV i r n c x).cfg) : Calls Try.prog 9 #[.agg #[.int .u64 i, .int .i64 r, .int .i64 n, .int .i64 c, .int .i64 x]] w (SX.Ret fun v w' => ∃ g, v = .tuple #[.pointer (some ⟨g, 0, none⟩), .int .i64 0] ∧ SX.St w [] w' [SX.Ent.blk g 64 (newV i r n c x).cells.toArray]) := by
  have h1 := ac_new i r n c x w hi
  simpa only [if_pos h] using h1
theorem ac_newF (i r n c x : Int) (w : World) (hi : 0 ≤ i) (h : ¬ (newV i r n c x).cfg) : Calls Try.prog 9 #[.agg #[.int .u64 i, .int .i64 r, .int .i64 n, .int .i64 c, .int .i64 x]] w (SX.Ret fun v w' => v = .tuple #[.pointer none, .int .i64 2] ∧ SX.St w [] w' []) := by
  have h1 := ac_new i r n c x w hi
  simpa only [if_neg h] using h1
def kA0 : AcV := newV 5 0 2 8 2
def kA1 : AcV := (startV kA0 10).1
def kA2 : AcV := (sendV kA1 10 70).1
def kA3 : AcV := (answerV kA2 12 6 9 0).1
def kA4 : AcV := (answerV kA3 13 7 9 0).1
def kA5 : AcV := (answerV kA4 14 6 9 0).1
def kA6 : AcV := (resolveV kA5 20 28 [0, 0, 0, 0, 0, 5]).1
set_option maxHeartbeats 1000000 in
set_option maxRecDepth 100000 in
theorem ac_known (w : World) : Calls Try.prog 10 #[] w (SX.Ret fun v w' => v = .bool true ∧ SX.St w [] w' []) := by
  have hs := SX.St.start w
  have o0 : kA0.ok := newV_ok (by decide +kernel)
  have o1 : kA1.ok := o0.start 10
  have o2 : kA2.ok := o1.send 10 70
  have o3 : kA3.ok := o2.answer 12 6 9 0
  have o4 : kA4.ok := o3.answer 13 7 9 0
  have o5 : kA5.ok := o4.answer 14 6 9 0
  have o6 : kA6.ok := o5.resolve 20 28 [0, 0, 0, 0, 0, 5]
  have q1 : (startV kA0 10).2 = 0 := by decide +kernel
  have q2 : (sendV kA1 10 70).2.1 = 6 := by decide +kernel
  have q3 : (sendV kA1 10 70).2.2 = 0 := by decide +kernel
  have q4 : (answerV kA2 12 6 9 0).2.1 = false := by decide +kernel
  have q5 : (answerV kA2 12 6 9 0).2.2 = 8 := by decide +kernel
  have q6 : (answerV kA3 13 7 9 0).2.1 = false := by decide +kernel
  have q7 : (answerV kA3 13 7 9 0).2.2 = 0 := by decide +kernel
  have q8 : (answerV kA4 14 6 9 0).2.1 = true := by decide +kernel
  have q9 : (answerV kA4 14 6 9 0).2.2 = 0 := by decide +kernel
  have q10 : (resolveV kA5 20 28 [0, 0, 0, 0, 0, 5]).2.1 = true := by decide +kernel
  have q11 : (resolveV kA5 20 28 [0, 0, 0, 0, 0, 5]).2.2 = 0 := by decide +kernel
  have q12 : useV kA6 = 9 := by decide +kernel
  have q13 : acB 5 1 10 = 3 := by decide +kernel
  have q14 : acB 5 1 0 = 0 := by decide +kernel
  have q15 : kA5.st = 3 := by decide +kernel
  have q16 : msgC kA5 = 28 := by decide +kernel
  have q17 : msgL kA5 = [0, 0, 0, 0, 0, 5] := by decide +kernel
  have hb5 : Byts [0, 0, 0, 0, 0, 5] := by8 (by decide)
  refine Z.enter Try.func10 rfl Try.ntmps10 rfl rfl ?_
  refine Z.seq ?_
  refine Z.region ?_
  refine Z.lb 1 rfl ?_
  refine Z.lnil ?_
  refine Z.only [] rfl ?_
  refine Z.nthen ?_
  refine Z.seq ?_
  refine Z.region ?_
  refine Z.l rfl rfl (by rfl) (Z.keepS hs) (Z.Yd.buildL [(0, 1), (1, 1), (2, 1), (3, 1), (4, 1)] [.int .u64 0, .int .i64 0, .int .i64 0, .int .i64 0, .int .i64 0] rfl rfl (by intro w; kernel_rfl)) ?_
  refine Z.le rfl trivial ?_
  refine Z.ZO.call rfl rfl (by rfl) rfl rfl Try.call9 rfl (ac_newT 5 0 2 8 2 _ (by decide) (by decide +kernel)) ?_
  rintro v1_1 w1_1 ⟨ga, rfl, hy⟩
  replace hs := hs.call hy
  clear hy
  try simp only [List.cons_append, List.nil_append, List.append_nil] at hs
  replace hs : SX.St w [] _ [SX.Ent.blk ga 64 kA0.cells.toArray] := hs
  refine Z.lb 5 rfl ?_
  refine Z.lnil ?_
  refine Z.only [1, 2] rfl ?_
  refine Z.nthen ?_
  refine Z.seq ?_
  refine Z.seq ?_
  refine Z.region ?_
  refine Z.lb 3 rfl ?_
  refine Z.yes (s := 23) (b := false) rfl ((by simp)) rfl ?_
  refine Z.lb 1 rfl ?_
  refine Z.yes (s := 23) (b := false) rfl rfl rfl ?_
  refine Z.le rfl (by exact ⟨rfl, trivial⟩) ?_
  refine Z.ZO.call rfl rfl (by rfl) rfl rfl Try.call11 rfl (ac_start ga _ kA0 10 _ hs.all o0) ?_
  rintro v2_4 w2_4 ⟨rfl, hz⟩
  replace hs : SX.St w [] _ [SX.Ent.blk ga 64 kA1.cells.toArray] := hs.regainAll hz
  rw [q1]
  refine Z.lb 1 rfl ?_
  refine Z.yes (s := 23) (b := false) rfl rfl rfl ?_
  refine Z.l rfl rfl (by rfl) (Z.keepS hs) (Z.Yd.pickF rfl rfl) ?_
  refine Z.lnil ?_
  refine Z.only [1, 27] rfl ?_
  refine Z.nthen ?_
  refine Z.cond rfl (fun h => absurd h (by simp)) (fun hc2 => ?_)
  refine Z.skip ?_
  refine Z.nthen ?_
  refine Z.seq ?_
  refine Z.region ?_
  refine Z.lb 1 rfl ?_
  refine Z.le rfl trivial ?_
  refine Z.ZO.call rfl rfl (by rfl) rfl rfl Try.call12 rfl (ac_send ga _ kA1 10 70 _ hs.all o1) ?_
  rintro v4_1 w4_1 ⟨rfl, hz⟩
  replace hs : SX.St w [] _ [SX.Ent.blk ga 64 kA2.cells.toArray] := hs.regainAll hz
  rw [q2, q3]
  refine Z.lb 5 rfl ?_
  refine Z.lnil ?_
  refine Z.only [1, 3, 4] rfl ?_
  refine Z.nthen ?_
  refine Z.seq ?_
  refine Z.region ?_
  refine Z.lb 1 rfl ?_
  refine Z.l rfl rfl (by rfl) (Z.keepS hs) (Z.Yd.buildL [(0, 1), (1, 1), (2, 1)] [.int .i64 0, .int .i64 0, .int .i64 0] rfl rfl (by intro w; kernel_rfl)) ?_
  refine Z.le rfl trivial ?_
  refine Z.ZO.call rfl rfl (by rfl) rfl rfl Try.call13 rfl (ac_answer ga _ kA2 12 6 9 0 _ hs.all o2) ?_
  rintro v5_2 w5_2 ⟨rfl, hz⟩
  replace hs : SX.St w [] _ [SX.Ent.blk ga 64 kA3.cells.toArray] := hs.regainAll hz
  rw [q4, q5]
  refine Z.lb 5 rfl ?_
  refine Z.lnil ?_
  refine Z.only [1, 3, 4, 5, 6] rfl ?_
  refine Z.nthen ?_
  refine Z.seq ?_
  refine Z.region ?_
  refine Z.lb 1 rfl ?_
  refine Z.l rfl rfl (by rfl) (Z.keepS hs) (Z.Yd.buildL [(0, 1), (1, 1), (2, 1)] [.int .i64 0, .int .i64 0, .int .i64 0] rfl rfl (by intro w; kernel_rfl)) ?_
  refine Z.le rfl trivial ?_
  refine Z.ZO.call rfl rfl (by rfl) rfl rfl Try.call13 rfl (ac_answer ga _ kA3 13 7 9 0 _ hs.all o3) ?_
  rintro v6_2 w6_2 ⟨rfl, hz⟩
  replace hs : SX.St w [] _ [SX.Ent.blk ga 64 kA4.cells.toArray] := hs.regainAll hz
  rw [q6, q7]
  refine Z.lb 5 rfl ?_
  refine Z.lnil ?_
  refine Z.only [1, 3, 4, 5, 6, 7, 8] rfl ?_
  refine Z.nthen ?_
  refine Z.seq ?_
  refine Z.region ?_
  refine Z.lb 1 rfl ?_
  refine Z.l rfl rfl (by rfl) (Z.keepS hs) (Z.Yd.buildL [(0, 1), (1, 1), (2, 1)] [.int .i64 0, .int .i64 0, .int .i64 0] rfl rfl (by intro w; kernel_rfl)) ?_
  refine Z.le rfl trivial ?_
  refine Z.ZO.call rfl rfl (by rfl) rfl rfl Try.call13 rfl (ac_answer ga _ kA4 14 6 9 0 _ hs.all o4) ?_
  rintro v7_2 w7_2 ⟨rfl, hz⟩
  replace hs : SX.St w [] _ [SX.Ent.blk ga 64 kA5.cells.toArray] := hs.regainAll hz
  rw [q8, q9]
  refine Z.lb 5 rfl ?_
  refine Z.lnil ?_
  refine Z.only [1, 3, 4, 5, 6, 7, 8, 9, 10] rfl ?_
  refine Z.nthen ?_
  refine Z.seq ?_
  refine Z.region ?_
  refine Z.lb 1 rfl ?_
  refine Z.le rfl trivial ?_
  refine Z.ZO.call rfl rfl (by rfl) rfl rfl Try.call15 rfl (ac_Message3 ga kA5 _ (hs.celOf (by first | ((repeat (first | exact List.mem_cons_self | refine List.mem_cons_of_mem _ ?_ | refine List.mem_append_right _ ?_)); done) | fail)) o5.cfg q15) ?_
  rintro v8_1 w8_1 ⟨u, rfl, Bm, cm, com, rfl, hy⟩
  replace hs := hs.call hy
  clear hy
  try simp only [List.cons_append, List.nil_append, List.append_nil] at hs
  rw [q16, q17]
  rw [q17] at hs
  refine Z.lb 3 rfl ?_
  refine Z.le rfl trivial ?_
  refine Z.ZO.alloc rfl rfl (by rfl) Try.zeroValue40 rfl hs ?_
  clear hs; intro g11 w11 hs
  refine Z.le rfl trivial ?_
  first | refine Z.ZO.storeA rfl rfl hs rfl rfl (by kernel_rfl) (by first | (simp [Value.oneCell']; done) | (refine Z.all_one ?_; assumption)) (by first | exact SX.at0 | exact SX.at1 | exact SX.at2 | exact SX.at3 | exact SX.at4 | exact SX.at5 | exact Z.at6 | exact Z.at7 | exact Z.at8 | exact Z.at9 | exact Z.at10 | exact Z.at11 | exact Z.at12) (by rfl) ?_ | refine Z.ZO.storeP rfl rfl hs rfl rfl (by kernel_rfl) (by first | (simp [Value.oneCell']; done) | (refine Z.all_one ?_; assumption)) (by first | exact SX.at0 | exact SX.at1 | exact SX.at2 | exact SX.at3 | exact SX.at4 | exact SX.at5 | exact Z.at6 | exact Z.at7 | exact Z.at8 | exact Z.at9 | exact Z.at10 | exact Z.at11 | exact Z.at12) (by first | decide | (simp; done) | (simp; omega)) ?_ | refine Z.ZO.storePR rfl rfl hs rfl rfl (by kernel_rfl) (by first | (simp [Value.oneCell']; done) | (refine Z.all_one ?_; assumption)) (by first | exact SX.at0 | exact SX.at1 | exact SX.at2 | exact SX.at3 | exact SX.at4 | exact SX.at5 | exact Z.at6 | exact Z.at7 | exact Z.at8 | exact Z.at9 | exact Z.at10 | exact Z.at11 | exact Z.at12) (by first | decide | (simp; done) | (simp; omega)) ?_
  clear hs; intro ws hs
  simp only [Nat.zero_add, Nat.add_zero, Nat.reduceAdd, Int.reduceToNat, Nat.reduceMul, List.set_cons_zero, List.set_cons_succ, List.setIfInBounds_toArray] at hs
  try simp only [Z.putL, Nat.zero_add] at hs
  refine Z.lb 1 rfl ?_
  refine Z.lnil ?_
  refine Z.only [1, 3, 4, 5, 6, 7, 8, 9, 10, 11, 12] rfl ?_
  refine Z.nthen ?_
  refine Z.seq ?_
  refine Z.region ?_
  refine Z.le rfl trivial ?_
  refine Z.ZO.litL (T' := 5) [(0, 1), (1, 1), (2, 1), (3, 1), (4, 1), (5, 1)] [.int .u8 0, .int .u8 0, .int .u8 0, .int .u8 0, .int .u8 0, .int .u8 0] rfl rfl (by rfl) rfl rfl (by intro W; kernel_rfl) hs ?_
  clear hs; intro g56 w56 hs
  refine Z.l rfl rfl (by rfl) (Z.keepS hs) (Z.Yd.buildL [(0, 1), (1, 1)] [.int .i64 0, .slice none 0 0] rfl rfl (by intro w; kernel_rfl)) ?_
  refine Z.le rfl trivial ?_
  refine Z.ZO.alloc rfl rfl (by rfl) Try.zeroValue40 rfl hs ?_
  clear hs; intro g13 w13 hs
  refine Z.le rfl trivial ?_
  first | refine Z.ZO.storeA rfl rfl hs rfl rfl (by kernel_rfl) (by first | (simp [Value.oneCell']; done) | (refine Z.all_one ?_; assumption)) (by first | exact SX.at0 | exact SX.at1 | exact SX.at2 | exact SX.at3 | exact SX.at4 | exact SX.at5 | exact Z.at6 | exact Z.at7 | exact Z.at8 | exact Z.at9 | exact Z.at10 | exact Z.at11 | exact Z.at12) (by rfl) ?_ | refine Z.ZO.storeP rfl rfl hs rfl rfl (by kernel_rfl) (by first | (simp [Value.oneCell']; done) | (refine Z.all_one ?_; assumption)) (by first | exact SX.at0 | exact SX.at1 | exact SX.at2 | exact SX.at3 | exact SX.at4 | exact SX.at5 | exact Z.at6 | exact Z.at7 | exact Z.at8 | exact Z.at9 | exact Z.at10 | exact Z.at11 | exact Z.at12) (by first | decide | (simp; done) | (simp; omega)) ?_ | refine Z.ZO.storePR rfl rfl hs rfl rfl (by kernel_rfl) (by first | (simp [Value.oneCell']; done) | (refine Z.all_one ?_; assumption)) (by first | exact SX.at0 | exact SX.at1 | exact SX.at2 | exact SX.at3 | exact SX.at4 | exact SX.at5 | exact Z.at6 | exact Z.at7 | exact Z.at8 | exact Z.at9 | exact Z.at10 | exact Z.at11 | exact Z.at12) (by first | decide | (simp; done) | (simp; omega)) ?_
  clear hs; intro ws hs
  simp only [Nat.zero_add, Nat.add_zero, Nat.reduceAdd, Int.reduceToNat, Nat.reduceMul, List.set_cons_zero, List.set_cons_succ, List.setIfInBounds_toArray] at hs
  try simp only [Z.putL, Nat.zero_add] at hs
  refine Z.lnil ?_
  refine Z.only [1, 3, 4, 5, 6, 7, 8, 9, 10, 11, 12, 13] rfl ?_
  refine Z.nthen ?_
  refine Z.seq ?_
  refine Z.region ?_
  refine Z.lb 1 rfl ?_
  refine Z.l rfl rfl (by rfl) (Z.keepS hs) (by first | exact Z.Yd.loadA _ rfl Try.isAgg40 (fun _ => Z.cellsB (by first | ((repeat (first | exact List.mem_cons_self | refine List.mem_cons_of_mem _ ?_ | refine List.mem_append_right _ ?_)); done) | fail)) (by exact Try.sizeOf40) | fail "load 10.1") ?_
  replace hs : SX.St w [] _ ([SX.Ent.blk ga 64 kA5.cells.toArray] ++ [SX.Ent.blk g56 _ _, _, _, _]) := hs.sel [4, 1, 0, 2, 3] (by decide)
  refine Z.le rfl trivial ?_
  refine Z.ZO.call rfl rfl (by rfl) rfl rfl Try.call16 rfl (ac_resolve ga _ kA5 20 28 _ 6 6 [0, 0, 0, 0, 0, 5] _ hs.lend o5 (by have h0 := Z.blk_lentj hs (j := 0) rfl; exact h0) rfl (by decide) hb5) ?_
  rintro v10_2 w10_2 ⟨rfl, hz⟩
  replace hs := hs.regain hz
  replace hs : SX.St w [] _ [SX.Ent.blk ga 64 kA6.cells.toArray, _, _, _, _] := hs
  rw [q10, q11]
  refine Z.lb 5 rfl ?_
  refine Z.lnil ?_
  refine Z.only [1, 3, 4, 5, 6, 7, 8, 9, 10, 11, 12, 13, 14, 15] rfl ?_
  refine Z.nthen ?_
  refine Z.seq ?_
  refine Z.region ?_
  refine Z.lb 30 rfl ?_
  refine Z.yes (s := 93) (b := true) rfl ((by simp)) rfl ?_
  refine Z.l rfl rfl (by rfl) (Z.keepS hs) (by first | exact Z.Yd.loadA _ rfl Try.isAgg40 (fun _ => Z.cellsB (by first | ((repeat (first | exact List.mem_cons_self | refine List.mem_cons_of_mem _ ?_ | refine List.mem_append_right _ ?_)); done) | fail)) (by exact Try.sizeOf40) | fail "load 11.30") ?_
  refine Z.l rfl rfl (by rfl) (Z.keepS hs) (by first | exact Z.Yd.loadA _ rfl Try.isAgg40 (fun _ => Z.cellsB (by first | ((repeat (first | exact List.mem_cons_self | refine List.mem_cons_of_mem _ ?_ | refine List.mem_append_right _ ?_)); done) | fail)) (by exact Try.sizeOf40) | fail "load 11.31") ?_
  refine Z.yes (s := 93) (b := true) rfl rfl rfl ?_
  refine Z.le rfl (by exact ⟨rfl, trivial⟩) ?_
  refine Z.ZO.call rfl rfl (by rfl) rfl rfl Try.call26 rfl (acr_same 28 28 Bm _ _ _ _ _ [0, 0, 0, 0, 0, 5] [0, 0, 0, 0, 0, 5] _ (hs.slm (A := Bm) (by first | ((repeat (first | exact List.mem_cons_self | refine List.mem_cons_of_mem _ ?_ | refine List.mem_append_right _ ?_)); done) | fail)) (by have h0 := hs.blkSl (g := g56) (by first | ((repeat (first | exact List.mem_cons_self | refine List.mem_cons_of_mem _ ?_ | refine List.mem_append_right _ ?_)); done) | fail); exact h0) rfl rfl hb5 hb5) ?_
  rintro v11_32 w11_32 ⟨rfl, hy⟩
  replace hs := hs.call hy
  clear hy
  try simp only [List.cons_append, List.nil_append, List.append_nil] at hs
  refine Z.l rfl rfl (by rfl) (Z.keepS hs) (Z.Yd.pickT rfl rfl) ?_
  refine Z.lb 12 rfl ?_
  refine Z.yes (s := 109) (b := true) rfl ((by simp)) rfl ?_
  refine Z.lb 1 rfl ?_
  refine Z.yes (s := 109) (b := true) rfl rfl rfl ?_
  refine Z.le rfl (by exact ⟨rfl, trivial⟩) ?_
  refine Z.ZO.call rfl rfl (by rfl) rfl rfl Try.call14 rfl (ac_RNTI ga kA6 _ (hs.celOf (by first | ((repeat (first | exact List.mem_cons_self | refine List.mem_cons_of_mem _ ?_ | refine List.mem_append_right _ ?_)); done) | fail)) o6.cfg) ?_
  rintro v11_47 w11_47 ⟨rfl, hy⟩
  replace hs := hs.call hy
  clear hy
  try simp only [List.cons_append, List.nil_append, List.append_nil] at hs
  rw [q12]
  refine Z.lb 1 rfl ?_
  refine Z.yes (s := 109) (b := true) rfl rfl rfl ?_
  refine Z.l rfl rfl (by rfl) (Z.keepS hs) (Z.Yd.pickT rfl rfl) ?_
  refine Z.lb 1 rfl ?_
  refine Z.yes (s := 114) (b := true) rfl ((by simp)) rfl ?_
  refine Z.le rfl (by exact ⟨rfl, trivial⟩) ?_
  refine Z.ZO.call rfl rfl (by rfl) rfl rfl Try.call28 rfl (ac_backoff 5 1 10 _ (by decide)) ?_
  rintro v11_51 w11_51 ⟨rfl, hy⟩
  replace hs := hs.call hy
  clear hy
  try simp only [List.cons_append, List.nil_append, List.append_nil] at hs
  rw [q13]
  refine Z.lb 1 rfl ?_
  refine Z.yes (s := 114) (b := true) rfl rfl rfl ?_
  refine Z.l rfl rfl (by rfl) (Z.keepS hs) (Z.Yd.pickT rfl rfl) ?_
  refine Z.lb 1 rfl ?_
  refine Z.yes (s := 118) (b := true) rfl ((by simp)) rfl ?_
  refine Z.le rfl (by exact ⟨rfl, trivial⟩) ?_
  refine Z.ZO.call rfl rfl (by rfl) rfl rfl Try.call28 rfl (ac_backoff 5 1 0 _ (by decide)) ?_
  rintro v11_55 w11_55 ⟨rfl, hy⟩
  replace hs := hs.call hy
  clear hy
  try simp only [List.cons_append, List.nil_append, List.append_nil] at hs
  rw [q14]
  refine Z.lb 1 rfl ?_
  refine Z.yes (s := 118) (b := true) rfl rfl rfl ?_
  refine Z.l rfl rfl (by rfl) (Z.keepS hs) (Z.Yd.pickT rfl rfl) ?_
  refine Z.lb 1 rfl ?_
  refine Z.lnil ?_
  refine Z.only [0] rfl ?_
  refine Z.nthen ?_
  refine Z.ret ?_
  -- ret#0
  refine Z.out1 (by exact ⟨rfl, trivial⟩) ?_
  exact ⟨_, rfl, by simp, hs.sub (List.nil_sublist _)⟩
end Go.Proofs.Ytjgfooakcljddaa

/- Arguments of any shape, asz they read, with what is known of their sizes. -/
namespace Go.Proofs.Ytjgfooakcljddaa
open Go.ChangeShapes Go.WideShapes Go.ChangeAt Go.RowKit
set_option linter.unusedVariables false
set_option linter.unusedSimpArgs false

/-- the cells cs read asz a value of type t, none of its slices larger than an address space -/
def Rw (P : Program) (W : World) (t : TypeId) (cs : List Value) : Prop :=
  ∃ (H : Type) (enc : TypeId × Value → H) (fuel : Nat) (x : DataW H × List MemPlace), DataW.trod enc P W 0 (fun _ => true) true fuel t cs = some x ∧ ∀ n ∈ x.1.weights P t, n ≤ reachBytes

variable {P : Program} {W : World} {t e : TypeId} {cs : List Value} {k : IntKind}

theorem Rw.rd (h : Rw P W t cs) : Rd P W t cs := by
  obtain ⟨H, enc, fuel, x, h, -⟩ := h
  exact ⟨H, enc, fuel, x, h⟩
theorem Rw.of {H : Type} {enc : TypeId × Value → H} {v : Value} {d : DataW H} {p : List MemPlace} {ts : List TypeId} {ds : List (DataW H)} (j : Nat) (hsz : (DataW.weightsEach P ts ds).all (· ≤ reachBytes) = true) (h : DataW.Trod enc P W 0 (fun _ => true) true t v d p) (ht : ts[j]? = some t) (hd : ds[j]? = some d) : Rw P W t v.cells.toList := by
  obtain ⟨fuel, h⟩ := h
  refine ⟨H, enc, fuel, _, h, fun n hn => ?_⟩
  have := List.all_eq_true.1 hsz n (DataW.weights_mem_each ht hd n hn)
  simpa using this
theorem Rw.int (ht : P.underlying t = some (.int k)) (h : Rw P W t cs) : ∃ n, cs = [.int k n] ∧ (Lit.int k n).wf = true := Rd.int ht h.rd
theorem Rw.bool (ht : P.underlying t = some .bool) (h : Rw P W t cs) : ∃ b, cs = [.bool b] := Rd.bool ht h.rd
theorem Rw.field {fs : Array Field} (ht : P.underlying t = some (.struct fs)) (h : Rw P W t cs) :
    cs.length = P.cellsOf t ∧ ∀ (i : Nat) (f : Field), fs[i]? = some f → Rw P W f.type ((cs.drop f.offset).take (P.cellsOf f.type)) := by
  obtain ⟨H, enc, fuel, x, h, hw⟩ := h
  obtain ⟨xs, n, _, rfl, h1, h2, h3⟩ := DataW.trod_struct ht h
  refine ⟨h1, fun i f hf => ?_⟩
  have h4 := h3 i f hf
  have hi : i < xs.length := by
    rw [h2]
    exact (Array.getElem?_eq_some_iff.1 hf).1
  rw [List.getElem?_eq_getElem hi] at h4
  refine ⟨H, enc, n, _, h4, fun m hm => hw m ?_⟩
  simp only [DataW.weights, ht]
  refine DataW.weights_mem_each (j := i) ?_ ?_ m hm
  · rw [List.getElem?_map, Array.getElem?_toList, hf]; rfl
  · rw [List.getElem?_map, List.getElem?_eq_getElem hi]; rfl
theorem Rw.weightsAll {H : Type} : ∀ {l : List (DataW H)} {d : DataW H}, d ∈ l → ∀ n ∈ d.weights P e, n ∈ DataW.weightsAll P e l
  | d0 :: l, d, hd, n, hn => by
    simp only [DataW.weightsAll, List.mem_append]
    rcases List.mem_cons.1 hd with rfl | hd
    · exact .inl hn
    · exact .inr (Rw.weightsAll hd n hn)
theorem Rw.array {n : Nat} (ht : P.underlying t = some (.array n e)) (h : Rw P W t cs) :
    cs.length = P.cellsOf t ∧ ∀ i, i < n → Rw P W e ((cs.drop (i * P.cellsOf e)).take (P.cellsOf e)) := by
  obtain ⟨H, enc, fuel, x, h, hw⟩ := h
  obtain ⟨xs, m, _, rfl, h1, h2, h3⟩ := DataW.trod_array ht h
  refine ⟨h1, fun i hi => ?_⟩
  have h4 := h3 i hi
  rw [List.getElem?_eq_getElem (by omega)] at h4
  refine ⟨H, enc, m, _, h4, fun q hq => hw q ?_⟩
  simp only [DataW.weights, ht]
  exact Rw.weightsAll (List.mem_map_of_mem (List.getElem_mem (by omega))) q hq
theorem Rw.slice (ht : P.underlying t = some (.slice e)) (h : Rw P W t cs) :
    cs = [.slice none 0 0] ∨ ∃ (a : Addr) (len cap : Nat) (rows : List (List Value)), cs = [.slice (some a) len cap] ∧ len ≤ cap ∧ cap ≤ maxLen ∧ len * P.bytesOf e ≤ reachBytes ∧ rows.length = len ∧
      ∀ i r, rows[i]? = some r → W.cells? 0 (a.add (i * P.cellsOf e)) (P.cellsOf e) = some r ∧ Rw P W e r := by
  obtain ⟨H, enc, fuel, x, h, hw⟩ := h
  rcases DataW.trod_slice ht h with ⟨h1, _⟩ | ⟨a, len, cap, elems, rest, n, _, h1, rfl, _, h2, h3, h4, h5, _⟩
  · exact .inl h1
  · have hb : len * P.bytesOf e ≤ reachBytes := by
      have h6 := hw ((elems.length + rest.length) * P.bytesOf e) (by simp [DataW.weights, ht])
      refine Nat.le_trans (Nat.mul_le_mul_right _ ?_) h6
      omega
    refine .inr ⟨a, len, cap, (List.range len).map fun i => (W.cells? 0 (a.add (i * P.cellsOf e)) (P.cellsOf e)).getD [], h1, h2, h3, hb, by simp, fun i r hr => ?_⟩
    rw [List.getElem?_map] at hr
    obtain ⟨i', hi', hr⟩ := Option.map_eq_some_iff.1 hr
    have hi : i < len := by
      have := (List.getElem?_eq_some_iff.1 hi').1
      simpa using this
    rw [List.getElem?_range hi] at hi'
    obtain rfl : i = i' := by simpa using hi'
    have h6 := h5 i hi
    rw [List.getElem?_eq_getElem (by omega)] at h6
    obtain ⟨r', h7, h8⟩ := Option.bind_eq_some_iff.1 h6
    rw [h7] at hr
    obtain rfl : r' = r := by simpa using hr
    refine ⟨h7, H, enc, n, _, h8, fun q hq => hw q ?_⟩
    simp only [DataW.weights, ht, List.mem_cons, List.mem_append]
    exact .inr (.inl (Rw.weightsAll (List.mem_map_of_mem (List.getElem_mem (by omega))) q hq))
theorem Rw.sliceV (ht : P.underlying t = some (.slice e)) (h : Rw P W t cs) : ∃ A n c, cs = [.slice A n c] := by
  rcases Rw.slice ht h with h1 | ⟨a, len, cap, rows, h1, -⟩
  · exact ⟨none, 0, 0, h1⟩
  · exact ⟨some a, len, cap, h1⟩
/-- a slice whose elements decode -/
theorem Rw.rows {α : Type} {A : Option Addr} {n c : Nat} (enc : α → List Value) (Good : α → Prop) (ht : P.underlying t = some (.slice e)) (hpos : 0 < P.cellsOf e)
    (dec : ∀ r, Rw P W e r → ∃ x, r = enc x ∧ Good x) (hsz : ∀ x, (enc x).length = P.cellsOf e) (h : Rw P W t [.slice A n c]) :
    ∃ xs : List α, xs.length = n ∧ n ≤ c ∧ c ≤ maxLen ∧ n * P.bytesOf e ≤ reachBytes ∧ (∀ x ∈ xs, Good x) ∧ Sl W A (xs.flatMap enc) := by
  rcases Rw.slice ht h with h1 | ⟨a, len, cap, rows, h1, h2, h3, hw, h4, h5⟩
  · simp only [List.cons.injEq, Value.slice.injEq, and_true] at h1
    obtain ⟨rfl, rfl, rfl⟩ := h1
    exact ⟨[], rfl, Nat.le_refl _, Nat.zero_le _, by simp, by simp, fun hp => by simp at hp⟩
  · simp only [List.cons.injEq, Value.slice.injEq, and_true] at h1
    obtain ⟨rfl, rfl, rfl⟩ := h1
    have key : ∀ (l : List (List Value)), (∀ r ∈ l, Rw P W e r) → ∃ xs : List α, l = xs.map enc ∧ ∀ x ∈ xs, Good x := by
      intro l
      induction l with
      | nil => intro _; exact ⟨[], rfl, by simp⟩
      | cons r l ih =>
        intro hl
        obtain ⟨x, rfl, hx⟩ := dec r (hl r (by simp))
        obtain ⟨xs, rfl, hxs⟩ := ih (fun r hr => hl r (by simp [hr]))
        exact ⟨x :: xs, rfl, fun y hy => by
          rcases List.mem_cons.1 hy with rfl | hy
          · exact hx
          · exact hxs y hy⟩
    obtain ⟨xs, hxs, hG⟩ := key rows (fun r hr => by
      obtain ⟨i, hi⟩ := List.getElem?_of_mem hr
      exact (h5 i r hi).2)
    have hlen : xs.length = n := by rw [← h4, hxs, List.length_map]
    refine ⟨xs, hlen, h2, h3, hw, hG, fun hp => ?_⟩
    -- the cells, one by one
    have hcell : ∀ (i : Nat) (x : α), xs[i]? = some x → ∀ (j : Nat) (u : Value), (enc x)[j]? = some u → W.cell? ((a.add (i * P.cellsOf e)).add j) = some u := by
      intro i x hx j u hu
      have hr : rows[i]? = some (enc x) := by
        rw [hxs, List.getElem?_map, hx]
        rfl
      exact (cells_len (h5 i _ hr).1).2 j u hu
    have hn0 : 0 < n := by
      rw [← hlen]
      cases xs with
      | nil => simp at hp
      | cons x xs => simp
    -- the address has no spot
    have hspot : a.spot = none := by
      have hx0 : xs[0]? = some (xs[0]'(by omega)) := List.getElem?_eq_getElem (by omega)
      have hl0 := hsz (xs[0]'(by omega))
      have := hcell 0 _ hx0 0 _ (List.getElem?_eq_getElem (by omega))
      have e0 : (a.add (0 * P.cellsOf e)).add 0 = a := by simp [Addr.add]
      rw [e0] at this
      unfold World.cell? at this
      split at this
      · cases hs : a.spot with
        | none => rfl
        | some s => simp [hs] at this
      · cases this
    obtain ⟨b, off, sp⟩ := a
    simp only at hspot
    subst hspot
    have hadd : ∀ o m, (⟨b, o, none⟩ : Addr).add m = ⟨b, o + m, none⟩ := fun o m => by
      unfold Addr.add
      split
      · rename_i h; rw [h]; rfl
      · rfl
    have hall : ∀ (ys : List α) (i : Nat), (∀ j, j < ys.length → xs[i + j]? = ys[j]?) → i + ys.length ≤ n → ∀ m u, (ys.flatMap enc)[m]? = some u → W.cell? ⟨b, off + (i * P.cellsOf e + m), none⟩ = some u := by
      intro ys
      induction ys with
      | nil => intro i _ _ m u hu; simp at hu
      | cons y ys ih =>
        intro i hy hle m u hu
        simp only [List.length_cons] at hle
        rw [List.flatMap_cons] at hu
        have hyl := hsz y
        by_cases hm : m < P.cellsOf e
        · rw [List.getElem?_append_left (by omega)] at hu
          have h0 := hy 0 (by simp)
          simp at h0
          have := hcell i y h0 m u hu
          rw [hadd, hadd] at this
          rw [← Nat.add_assoc]
          exact this
        · rw [List.getElem?_append_right (by omega), hyl] at hu
          have := ih (i + 1) (fun j hj => by
            have := hy (j + 1) (by simp; omega)
            rw [show i + 1 + j = i + (j + 1) from by omega, this]
            simp) (by omega) (m - P.cellsOf e) u hu
          rw [Nat.add_mul, Nat.one_mul] at this
          rw [show i * P.cellsOf e + m = i * P.cellsOf e + P.cellsOf e + (m - P.cellsOf e) from by omega]
          exact this
    have hfin := hall xs 0 (fun j _ => by simp) (by omega)
    simp only [Nat.zero_mul, Nat.zero_add] at hfin
    refine ⟨b, off, rfl, ?_, fun j u hu => hfin j u hu⟩
    have hpp : 0 < (xs.flatMap enc).length := hp
    have := hfin 0 _ (List.getElem?_eq_getElem hpp)
    exact World.block_lt_of_cell? _ _ this
end Go.Proofs.Ytjgfooakcljddaa

/- Random access of a handset: any sequence of steps. -/
namespace Go.Proofs.Ytjgfooakcljddaa
open Go.RowKit
set_option linter.unusedSimpArgs false
set_option linter.unusedVariables false
--newlaws

theorem ax_len (x : AxV) : x.cells.length = 8 := rfl
theorem GoodX.lent {w0 w : World} {M : List Nat} {L1 L2 : List SX.Ent} {x : AxV} (h : GoodX w0 M x) (hs : SX.St w0 M w (L1 ++ L2)) : GoodX w (SX.idsOf L1) x := ⟨h.sx.lent hs, h.by8, h.len⟩
def runV (m : AcV) (l : List AxV) : AcV := l.foldl doV m
theorem runV_snoc (m : AcV) (l : List AxV) (x : AxV) : runV m (l ++ [x]) = doV (runV m l) x := by simp [runV]
theorem AcV.ok.runV {m : AcV} (h : m.ok) (l : List AxV) : (Go.Proofs.Ytjgfooakcljddaa.runV m l).ok := by
  unfold Go.Proofs.Ytjgfooakcljddaa.runV
  induction l generalizing m with
  | nil => exact h
  | cons x l ih => exact ih (h.doV x)
set_option maxHeartbeats 1000000 in
set_option maxRecDepth 100000 in
theorem accessRuns_walk (i r n c x : Int) (A : Option Addr) (m d : Nat) (l : List AxV) (w : World) (hi : 0 ≤ i) (hx : Sl w A (l.flatMap AxV.cells)) (hl : l.length = m) (hm : m ≤ maxLen) (hg : ∀ a ∈ l, GoodX w [] a) :
    Calls Try.prog 5 #[.agg #[.int .u64 i, .int .i64 r, .int .i64 n, .int .i64 c, .int .i64 x], .slice A m d] w (SX.Ret fun v w' => v = .bool true ∧ SX.St w [] w' []) := by
  have hs := SX.St.start w
  by_cases hc : (newV i r n c x).cfg
  · have hok := newV_ok hc
    by_cases h100 : m ≤ 100
    · have hone0 := ac_one (newV i r n c x)
      refine Z.enter Try.func5 rfl Try.ntmps5 rfl rfl ?_
      refine Z.seq ?_
      refine Z.region ?_
      refine Z.le rfl trivial ?_
      refine Z.ZO.box rfl rfl (by rfl) rfl rfl hs ?_
      clear hs; intro g2 w2 hs
      refine Z.lb 1 rfl ?_
      refine Z.lnil ?_
      refine Z.only [1, 2] rfl ?_
      refine Z.nthen ?_
      refine Z.seq ?_
      refine Z.region ?_
      refine Z.l rfl rfl (by rfl) (Z.keepS hs) (by first | exact Z.Yd.loadA _ rfl Try.isAgg24 (fun _ => Z.cellsB (by first | ((repeat (first | exact List.mem_cons_self | refine List.mem_cons_of_mem _ ?_ | refine List.mem_append_right _ ?_)); done) | fail)) (by exact Try.sizeOf24) | fail "load 1.0") ?_
      refine Z.le rfl trivial ?_
      refine Z.ZO.call rfl rfl (by rfl) rfl rfl Try.call9 rfl (ac_newT i r n c x _ hi hc) ?_
      rintro v1_1 w1_1 ⟨ga, rfl, hy⟩
      replace hs := hs.call hy
      clear hy
      try simp only [List.cons_append, List.nil_append, List.append_nil] at hs
      refine Z.lb 5 rfl ?_
      refine Z.lnil ?_
      refine Z.only [1, 2, 5, 6] rfl ?_
      refine Z.nthen ?_
      refine Z.seq ?_
      refine Z.seq ?_
      refine Z.region ?_
      refine Z.l rfl rfl (by rfl) (Z.keepS hs) (by first | exact Z.Yd.loadA _ rfl Try.isAgg24 (fun _ => Z.cellsB (by first | ((repeat (first | exact List.mem_cons_self | refine List.mem_cons_of_mem _ ?_ | refine List.mem_append_right _ ?_)); done) | fail)) (by exact Try.sizeOf24) | fail "load 2.0") ?_
      refine Z.le rfl trivial ?_
      refine Z.ZO.call rfl rfl (by rfl) rfl rfl Try.call19 rfl (acr_valid i r n c x _ hi) ?_
      rintro v2_1 w2_1 ⟨rfl, hy⟩
      replace hs := hs.call hy
      clear hy
      try simp only [List.cons_append, List.nil_append, List.append_nil] at hs
      refine Z.lb 1 rfl ?_
      refine Z.lnil ?_
      refine Z.only [1, 2, 5, 6, 17] rfl ?_
      refine Z.nthen ?_
      refine Z.cond rfl (fun h => absurd h (by simp [hc])) (fun hc2 => ?_)
      refine Z.skip ?_
      refine Z.nthen ?_
      refine Z.seq ?_
      refine Z.seq ?_
      refine Z.region ?_
      refine Z.lb 1 rfl ?_
      refine Z.l rfl rfl (by rfl) (Z.keepS hs) (Z.Yd.lenS rfl Try.underlying48) ?_
      refine Z.lb 1 rfl ?_
      refine Z.lnil ?_
      refine Z.only [1, 2, 5, 6, 29] rfl ?_
      refine Z.nthen ?_
      refine Z.cond rfl (fun h => absurd h (by simp; omega)) (fun hc4 => ?_)
      refine Z.skip ?_
      refine Z.nthen ?_
      refine Z.seq ?_
      refine Z.region ?_
      refine Z.l rfl rfl (by rfl) (Z.keepS hs) (by first | exact Z.Yd.loadA _ rfl Try.isAgg24 (fun _ => Z.cellsB (by first | ((repeat (first | exact List.mem_cons_self | refine List.mem_cons_of_mem _ ?_ | refine List.mem_append_right _ ?_)); done) | fail)) (by exact Try.sizeOf24) | fail "load 6.0") ?_
      refine Z.le rfl trivial ?_
      refine Z.ZO.call rfl rfl (by rfl) rfl rfl Try.call20 rfl (acr_new i r n c x _) ?_
      rintro v6_1 w6_1 ⟨rfl, hy⟩
      replace hs := hs.call hy
      clear hy
      try simp only [List.cons_append, List.nil_append, List.append_nil] at hs
      refine Z.le rfl trivial ?_
      refine Z.ZO.alloc rfl rfl (by rfl) Try.zeroValue51 rfl hs ?_
      clear hs; intro g7 w7 hs
      refine Z.le rfl trivial ?_
      first | refine Z.ZO.storeA rfl rfl hs rfl rfl (by kernel_rfl) (by first | (simp [Value.oneCell']; done) | (refine Z.all_one ?_; assumption)) (by first | exact SX.at0 | exact SX.at1 | exact SX.at2 | exact SX.at3 | exact SX.at4 | exact SX.at5 | exact Z.at6 | exact Z.at7 | exact Z.at8 | exact Z.at9 | exact Z.at10 | exact Z.at11 | exact Z.at12) (by rfl) ?_ | refine Z.ZO.storeP rfl rfl hs rfl rfl (by kernel_rfl) (by first | (simp [Value.oneCell']; done) | (refine Z.all_one ?_; assumption)) (by first | exact SX.at0 | exact SX.at1 | exact SX.at2 | exact SX.at3 | exact SX.at4 | exact SX.at5 | exact Z.at6 | exact Z.at7 | exact Z.at8 | exact Z.at9 | exact Z.at10 | exact Z.at11 | exact Z.at12) (by first | decide | (simp; done) | (simp; omega)) ?_ | refine Z.ZO.storePR rfl rfl hs rfl rfl (by kernel_rfl) (by first | (simp [Value.oneCell']; done) | (refine Z.all_one ?_; assumption)) (by first | exact SX.at0 | exact SX.at1 | exact SX.at2 | exact SX.at3 | exact SX.at4 | exact SX.at5 | exact Z.at6 | exact Z.at7 | exact Z.at8 | exact Z.at9 | exact Z.at10 | exact Z.at11 | exact Z.at12) (by first | decide | (simp; done) | (simp; omega)) ?_
      clear hs; intro ws hs
      simp only [Nat.zero_add, Nat.add_zero, Nat.reduceAdd, Int.reduceToNat, Nat.reduceMul, List.set_cons_zero, List.set_cons_succ, List.setIfInBounds_toArray] at hs
      try simp only [Z.putL, Nat.zero_add] at hs
      refine Z.lnil ?_
      refine Z.only [1, 5, 6, 7] rfl ?_
      refine Z.nthen ?_
      refine Z.seq ?_
      refine Z.seq ?_
      refine Z.region ?_
      refine Z.lb 3 rfl ?_
      refine Z.yes (s := 35) (b := false) rfl ((by simp)) rfl ?_
      refine Z.lb 1 rfl ?_
      refine Z.l rfl rfl (by rfl) (Z.keepS hs) (by first | exact Z.Yd.loadA _ rfl Try.isAgg51 (fun _ => Z.cellsB (by first | ((repeat (first | exact List.mem_cons_self | refine List.mem_cons_of_mem _ ?_ | refine List.mem_append_right _ ?_)); done) | fail)) (by exact Try.sizeOf51) | fail "load 7.4") ?_
      refine Z.yes (s := 35) (b := false) rfl rfl rfl ?_
      refine Z.le rfl (by exact ⟨rfl, trivial⟩) ?_
      refine Z.ZO.call rfl rfl (by rfl) rfl rfl Try.call21 rfl (ac_agrees ga (newV i r n c x) _ (hs.celOf (by first | ((repeat (first | exact List.mem_cons_self | refine List.mem_cons_of_mem _ ?_ | refine List.mem_append_right _ ?_)); done) | fail)) hc) ?_
      rintro v7_5 w7_5 ⟨rfl, hy⟩
      replace hs := hs.call hy
      clear hy
      try simp only [List.cons_append, List.nil_append, List.append_nil] at hs
      refine Z.lb 1 rfl ?_
      refine Z.yes (s := 35) (b := false) rfl rfl rfl ?_
      refine Z.l rfl rfl (by rfl) (Z.keepS hs) (Z.Yd.pickF rfl rfl) ?_
      refine Z.lnil ?_
      refine Z.only [1, 5, 7, 40] rfl ?_
      refine Z.nthen ?_
      refine Z.cond rfl (fun h => absurd h (by simp)) (fun hc7 => ?_)
      refine Z.skip ?_
      refine Z.nthen ?_
      refine Z.seq ?_
      refine Z.seq ?_
      refine Z.region ?_
      refine Z.lb 1 rfl ?_
      refine Z.lnil ?_
      refine Z.only [1, 5, 7, 8] rfl ?_
      refine Z.nthen ?_
      refine Z.block ?_
      refine Z.loopk (ι := Nat) [1, 5, 7] rfl (fun k => [(8, [], .int .i64 (k : Int))]) (fun k wr => k ≤ m ∧ SX.St w [] wr [SX.Ent.blk g7 51 (runV (newV i r n c x) (l.take k)).cells.toArray, SX.Ent.blk ga 64 (runV (newV i r n c x) (l.take k)).cells.toArray, SX.Ent.blk g2 24 #[.int .u64 i, .int .i64 r, .int .i64 n, .int .i64 c, .int .i64 x]]) (fun k => m - k) 0 (by refine ⟨?_, trivial⟩ <;> (first | rfl | (refine Z.lookv rfl ?_; simp; done) | (refine Z.lookv rfl ?_; simp; omega))) ⟨Nat.zero_le _, hs⟩ ?_
      clear hs
      rintro k w9 ⟨hk, hs⟩
      refine Z.only [1, 5, 7, 8] rfl ?_
      refine Z.seq ?_
      refine Z.seq ?_
      refine Z.region ?_
      refine Z.lb 2 rfl ?_
      refine Z.l rfl rfl (by rfl) (Z.keepS hs) (Z.Yd.lenS rfl Try.underlying48) ?_
      refine Z.lb 1 rfl ?_
      refine Z.lnil ?_
      refine Z.only [1, 5, 7, 8, 44] rfl ?_
      refine Z.nthen ?_
      refine Z.cond rfl (fun hc10 => ?_) (fun hc10 => ?_)
      · first
          | (exfalso; simp at hc10 <;> omega)
          | (
            (try simp at hc10)
            obtain ⟨b, off, rfl, hx2⟩ := hx.sx.some (by rw [Z.flat_length (s := 8) ax_len]; omega)
            obtain ⟨y, hyk⟩ : ∃ f, l[k]? = some f := ⟨_, List.getElem?_eq_getElem (by omega)⟩
            have hgy := hg y (List.mem_of_getElem? hyk)
            obtain ⟨mk, hmk⟩ : ∃ mk, mk = runV (newV i r n c x) (l.take k) := ⟨_, rfl⟩
            have hmo : mk.ok := by rw [hmk]; exact hok.runV _
            have hnx : runV (newV i r n c x) (l.take (k + 1)) = doV mk y := by rw [hmk, ← take_snoc hyk, runV_snoc]
            rw [← hmk] at hs
            have hone1 := ac_one (doV mk y)
            refine Z.skip ?_
            refine Z.nthen ?_
            refine Z.seq ?_
            refine Z.block ?_
            refine Z.seq ?_
            refine Z.region ?_
            refine Z.lb 1 rfl ?_
            refine Z.lnil ?_
            refine Z.only [1, 5, 7, 8] rfl ?_
            refine Z.nthen ?_
            refine Z.seq ?_
            refine Z.drawL [SX.Ent.blk g7 51 mk.cells.toArray] (fun j => !([8, 9, 10, 11].contains j)) mixed hs ?_
            clear hs; intro wd13 hs
            refine Z.tX 0 [0, 6, 7, 8, 9, 10, 11] rfl rfl rfl (by rfl) (by kernel_rfl) ⟨_, hs, by first | (simp; done) | exact fun e he => List.mem_append_right _ he⟩ (Z.Yd.pure rfl) ?_
            refine Z.tX 1 [1, 6, 7, 8, 9, 10, 11] rfl rfl rfl (by rfl) (by kernel_rfl) ⟨_, hs, by first | (simp; done) | exact fun e he => List.mem_append_right _ he⟩ (Z.Yd.loadA _ rfl Try.isAgg51 (fun _ => Z.cellsB (cs := mk.cells) (by first | ((repeat (first | exact List.mem_cons_self | refine List.mem_cons_of_mem _ ?_ | refine List.mem_append_right _ ?_)); done) | fail)) (by exact Try.sizeOf51)) ?_
            refine Z.tX 2 [2, 4, 5, 6, 7, 8, 9, 10, 11] rfl rfl rfl (by rfl) (by kernel_rfl) ⟨_, hs, by first | (simp; done) | exact fun e he => List.mem_append_right _ he⟩ (Z.Yd.pure rfl) ?_
            refine Z.tX 3 [3, 4, 5, 6, 7, 8, 9, 10, 11] rfl rfl rfl (by rfl) (by kernel_rfl) ⟨_, hs, by first | (simp; done) | exact fun e he => List.mem_append_right _ he⟩ (Z.Yd.pure rfl) ?_
            refine Z.tX 4 [4, 5, 6, 7, 8, 9, 10, 11] rfl rfl rfl (by rfl) (by kernel_rfl) ⟨_, hs, by first | (simp; done) | exact fun e he => List.mem_append_right _ he⟩ (Z.Yd.elem rfl rfl Try.underlying48 Try.sizeOf57 (fun hG => ⟨(by first | omega | (have hG' := Z.gh rfl hG; simp at hG'; omega)), (by first | omega | (have hG' := Z.gh rfl hG; simp at hG'; omega))⟩)) ?_
            refine Z.tX 5 [5, 6, 7, 8, 9, 10, 11] rfl rfl rfl (by rfl) (by kernel_rfl) ⟨_, hs, by first | (simp; done) | exact fun e he => List.mem_append_right _ he⟩ (Z.Yd.loadA _ rfl Try.isAgg57 (fun _ => Z.cellsX y.cells hx2 ax_len hyk rfl) (by exact Try.sizeOf57)) ?_
            replace hs : SX.St w [] _ ([SX.Ent.blk ga 64 mk.cells.toArray] ++ [_, _]) := hs.sel [1, 0, 2] (by decide)
            refine Z.tn 6 rfl rfl (by kernel_rfl) rfl trivial ?_
            refine Z.ZO.call rfl rfl (by rfl) rfl rfl Try.call22 rfl (ac_do ga _ mk y _ hs.lend hmo (hgy.lent hs)) ?_
            rintro v13_6 w13_6 ⟨rfl, hz⟩
            replace hs := hs.regain hz
            simp only [List.cons_append, List.nil_append] at hs
            refine Z.tk (Dn := fun j => !([8, 9, 10, 11].contains j)) (i := 6) (fun _ => ⟨_, hs, by first | (simp; done) | exact fun e he => List.mem_append_right _ he⟩) ?_
            refine Z.tX 7 [7, 8, 9, 10, 11] rfl rfl rfl (by rfl) (by kernel_rfl) ⟨_, hs, by first | (simp; done) | exact fun e he => List.mem_append_right _ he⟩ (Z.Yd.pure rfl) ?_
            refine Z.tY 8 [8, 10, 11] rfl rfl rfl (by rfl) (by kernel_rfl) (Z.Yd.pure rfl) ?_
            refine Z.tY 9 [9, 11] rfl rfl rfl (by rfl) (by kernel_rfl) (Z.Yd.pure rfl) ?_
            refine Z.tn 10 rfl rfl (by kernel_rfl) rfl trivial ?_
            first | refine Z.ZO.storeA rfl rfl hs rfl rfl (by kernel_rfl) (by first | (simp [Value.oneCell']; done) | (refine Z.all_one ?_; assumption)) (by first | exact SX.at0 | exact SX.at1 | exact SX.at2 | exact SX.at3 | exact SX.at4 | exact SX.at5 | exact Z.at6 | exact Z.at7 | exact Z.at8 | exact Z.at9 | exact Z.at10 | exact Z.at11 | exact Z.at12) (by rfl) ?_ | refine Z.ZO.storeP rfl rfl hs rfl rfl (by kernel_rfl) (by first | (simp [Value.oneCell']; done) | (refine Z.all_one ?_; assumption)) (by first | exact SX.at0 | exact SX.at1 | exact SX.at2 | exact SX.at3 | exact SX.at4 | exact SX.at5 | exact Z.at6 | exact Z.at7 | exact Z.at8 | exact Z.at9 | exact Z.at10 | exact Z.at11 | exact Z.at12) (by first | decide | (simp; done) | (simp; omega)) ?_ | refine Z.ZO.storePR rfl rfl hs rfl rfl (by kernel_rfl) (by first | (simp [Value.oneCell']; done) | (refine Z.all_one ?_; assumption)) (by first | exact SX.at0 | exact SX.at1 | exact SX.at2 | exact SX.at3 | exact SX.at4 | exact SX.at5 | exact Z.at6 | exact Z.at7 | exact Z.at8 | exact Z.at9 | exact Z.at10 | exact Z.at11 | exact Z.at12) (by first | decide | (simp; done) | (simp; omega)) ?_
            clear hs; intro ws hs
            simp only [Nat.zero_add, Nat.add_zero, Nat.reduceAdd, Int.reduceToNat, Nat.reduceMul, List.set_cons_zero, List.set_cons_succ, List.setIfInBounds_toArray] at hs
            try simp only [Z.putL, Nat.zero_add] at hs
            refine Z.tk (Dn := fun j => !([8, 9, 10, 11].contains j)) (i := 10) (fun h => absurd h (by decide)) ?_
            refine Z.tY 11 [11] rfl rfl rfl (by rfl) (by kernel_rfl) (Z.Yd.pure rfl) ?_
            refine Z.td (by rfl) (by kernel_rfl) ?_
            refine Z.only [1, 5, 7, 8, 9] rfl ?_
            refine Z.nthen ?_
            refine Z.seq ?_
            refine Z.region ?_
            refine Z.lb 2 rfl ?_
            refine Z.lnil ?_
            refine Z.only [1, 5, 7, 8, 58] rfl ?_
            refine Z.nthen ?_
            refine Z.cond rfl (fun h => absurd h (by simp)) (fun hc14 => ?_)
            refine Z.skip ?_
            refine Z.nblock ?_
            refine Z.nthen ?_
            refine Z.region ?_
            refine Z.lb 1 rfl ?_
            refine Z.l rfl rfl (by rfl) (Z.keepS hs) (Z.Yd.add rfl rfl (fun hG => Z.wi64 (by first | omega | (have hG' := Z.gh rfl hG; simp at hG'; omega)))) ?_
            refine Z.lb 1 rfl ?_
            refine Z.lnil ?_
            refine Z.only [1, 5, 7, 8] rfl ?_
            refine Z.nthen ?_
            exact Z.again (k + 1) (by refine ⟨?_, ?_, ?_, ?_, trivial⟩ <;> (first | rfl | (refine Z.lookv rfl ?_; simp; done) | (refine Z.lookv rfl ?_; simp; omega))) ⟨by omega, by rw [hnx]; exact hs.sel [1, 0, 2] (by decide)⟩ (by omega)
            )
      · first
          | (exfalso; simp at hc10 <;> omega)
          | (
            (try simp at hc10)
            refine Z.exit ?_
            refine Z.xthen ?_
            refine Z.xthen ?_
            refine Z.xblock ?_
            refine Z.nthen ?_
            refine Z.seq ?_
            refine Z.region ?_
            refine Z.le rfl trivial ?_
            refine Z.ZO.call rfl rfl (by rfl) rfl rfl Try.call10 rfl (ac_known _) ?_
            rintro v16_0 w16_0 ⟨rfl, hy⟩
            replace hs := hs.call hy
            clear hy
            try simp only [List.cons_append, List.nil_append, List.append_nil] at hs
            refine Z.lb 1 rfl ?_
            refine Z.lnil ?_
            refine Z.only [4] rfl ?_
            refine Z.nthen ?_
            refine Z.ret ?_
            -- ret#0
            refine Z.out1 (by exact ⟨rfl, trivial⟩) ?_
            first | exact ⟨_, rfl, rfl, hs⟩ | exact ⟨_, rfl, rfl, hs.sub (List.nil_sublist _)⟩
            )
    · skip
      refine Z.enter Try.func5 rfl Try.ntmps5 rfl rfl ?_
      refine Z.seq ?_
      refine Z.region ?_
      refine Z.le rfl trivial ?_
      refine Z.ZO.box rfl rfl (by rfl) rfl rfl hs ?_
      clear hs; intro g2 w2 hs
      refine Z.lb 1 rfl ?_
      refine Z.lnil ?_
      refine Z.only [1, 2] rfl ?_
      refine Z.nthen ?_
      refine Z.seq ?_
      refine Z.region ?_
      refine Z.l rfl rfl (by rfl) (Z.keepS hs) (by first | exact Z.Yd.loadA _ rfl Try.isAgg24 (fun _ => Z.cellsB (by first | ((repeat (first | exact List.mem_cons_self | refine List.mem_cons_of_mem _ ?_ | refine List.mem_append_right _ ?_)); done) | fail)) (by exact Try.sizeOf24) | fail "load 1.0") ?_
      refine Z.le rfl trivial ?_
      refine Z.ZO.call rfl rfl (by rfl) rfl rfl Try.call9 rfl (ac_newT i r n c x _ hi hc) ?_
      rintro v1_1 w1_1 ⟨ga, rfl, hy⟩
      replace hs := hs.call hy
      clear hy
      try simp only [List.cons_append, List.nil_append, List.append_nil] at hs
      refine Z.lb 5 rfl ?_
      refine Z.lnil ?_
      refine Z.only [1, 2, 5, 6] rfl ?_
      refine Z.nthen ?_
      refine Z.seq ?_
      refine Z.seq ?_
      refine Z.region ?_
      refine Z.l rfl rfl (by rfl) (Z.keepS hs) (by first | exact Z.Yd.loadA _ rfl Try.isAgg24 (fun _ => Z.cellsB (by first | ((repeat (first | exact List.mem_cons_self | refine List.mem_cons_of_mem _ ?_ | refine List.mem_append_right _ ?_)); done) | fail)) (by exact Try.sizeOf24) | fail "load 2.0") ?_
      refine Z.le rfl trivial ?_
      refine Z.ZO.call rfl rfl (by rfl) rfl rfl Try.call19 rfl (acr_valid i r n c x _ hi) ?_
      rintro v2_1 w2_1 ⟨rfl, hy⟩
      replace hs := hs.call hy
      clear hy
      try simp only [List.cons_append, List.nil_append, List.append_nil] at hs
      refine Z.lb 1 rfl ?_
      refine Z.lnil ?_
      refine Z.only [1, 2, 5, 6, 17] rfl ?_
      refine Z.nthen ?_
      refine Z.cond rfl (fun h => absurd h (by simp [hc])) (fun hc2 => ?_)
      refine Z.skip ?_
      refine Z.nthen ?_
      refine Z.seq ?_
      refine Z.seq ?_
      refine Z.region ?_
      refine Z.lb 1 rfl ?_
      refine Z.l rfl rfl (by rfl) (Z.keepS hs) (Z.Yd.lenS rfl Try.underlying48) ?_
      refine Z.lb 1 rfl ?_
      refine Z.lnil ?_
      refine Z.only [1, 2, 5, 6, 29] rfl ?_
      refine Z.nthen ?_
      refine Z.cond rfl (fun hc4 => ?_) (fun h => absurd h (by simp; omega))
      refine Z.seq ?_
      refine Z.region ?_
      refine Z.le rfl trivial ?_
      refine Z.ZO.call rfl rfl (by rfl) rfl rfl Try.call10 rfl (ac_known _) ?_
      rintro v5_0 w5_0 ⟨rfl, hy⟩
      replace hs := hs.call hy
      clear hy
      try simp only [List.cons_append, List.nil_append, List.append_nil] at hs
      refine Z.lb 1 rfl ?_
      refine Z.lnil ?_
      refine Z.only [4] rfl ?_
      refine Z.nthen ?_
      refine Z.ret ?_
      repeat (first | refine Z.rthen ?_ | refine Z.rblock ?_ | refine Z.rscope ?_)
      -- ret#0
      refine Z.out1 (by exact ⟨rfl, trivial⟩) ?_
      first | exact ⟨_, rfl, rfl, hs⟩ | exact ⟨_, rfl, rfl, hs.sub (List.nil_sublist _)⟩
  · skip
    refine Z.enter Try.func5 rfl Try.ntmps5 rfl rfl ?_
    refine Z.seq ?_
    refine Z.region ?_
    refine Z.le rfl trivial ?_
    refine Z.ZO.box rfl rfl (by rfl) rfl rfl hs ?_
    clear hs; intro g2 w2 hs
    refine Z.lb 1 rfl ?_
    refine Z.lnil ?_
    refine Z.only [1, 2] rfl ?_
    refine Z.nthen ?_
    refine Z.seq ?_
    refine Z.region ?_
    refine Z.l rfl rfl (by rfl) (Z.keepS hs) (by first | exact Z.Yd.loadA _ rfl Try.isAgg24 (fun _ => Z.cellsB (by first | ((repeat (first | exact List.mem_cons_self | refine List.mem_cons_of_mem _ ?_ | refine List.mem_append_right _ ?_)); done) | fail)) (by exact Try.sizeOf24) | fail "load 1.0") ?_
    refine Z.le rfl trivial ?_
    refine Z.ZO.call rfl rfl (by rfl) rfl rfl Try.call9 rfl (ac_newF i r n c x _ hi hc) ?_
    rintro v1_1 w1_1 ⟨rfl, hy⟩
    replace hs := hs.call hy
    clear hy
    try simp only [List.cons_append, List.nil_append, List.append_nil] at hs
    refine Z.lb 5 rfl ?_
    refine Z.lnil ?_
    refine Z.only [1, 2, 5, 6] rfl ?_
    refine Z.nthen ?_
    refine Z.seq ?_
    refine Z.seq ?_
    refine Z.region ?_
    refine Z.l rfl rfl (by rfl) (Z.keepS hs) (by first | exact Z.Yd.loadA _ rfl Try.isAgg24 (fun _ => Z.cellsB (by first | ((repeat (first | exact List.mem_cons_self | refine List.mem_cons_of_mem _ ?_ | refine List.mem_append_right _ ?_)); done) | fail)) (by exact Try.sizeOf24) | fail "load 2.0") ?_
    refine Z.le rfl trivial ?_
    refine Z.ZO.call rfl rfl (by rfl) rfl rfl Try.call19 rfl (acr_valid i r n c x _ hi) ?_
    rintro v2_1 w2_1 ⟨rfl, hy⟩
    replace hs := hs.call hy
    clear hy
    try simp only [List.cons_append, List.nil_append, List.append_nil] at hs
    refine Z.lb 1 rfl ?_
    refine Z.lnil ?_
    refine Z.only [1, 2, 5, 6, 17] rfl ?_
    refine Z.nthen ?_
    refine Z.cond rfl (fun hc2 => ?_) (fun h => absurd h (by simp [hc]))
    refine Z.seq ?_
    refine Z.region ?_
    refine Z.lb 4 rfl ?_
    refine Z.l rfl rfl (by rfl) (Z.keepS hs) (Z.Yd.ptrNil rfl rfl Try.underlying25) ?_
    refine Z.lb 2 rfl ?_
    refine Z.yes (s := 24) (b := true) rfl ((by simp)) rfl ?_
    refine Z.le rfl (by exact ⟨rfl, trivial⟩) ?_
    refine Z.ZO.call rfl rfl (by rfl) rfl rfl Try.call10 rfl (ac_known _) ?_
    rintro v3_7 w3_7 ⟨rfl, hy⟩
    replace hs := hs.call hy
    clear hy
    try simp only [List.cons_append, List.nil_append, List.append_nil] at hs
    refine Z.l rfl rfl (by rfl) (Z.keepS hs) (Z.Yd.pickT rfl rfl) ?_
    refine Z.lb 1 rfl ?_
    refine Z.lnil ?_
    refine Z.only [4] rfl ?_
    refine Z.nthen ?_
    refine Z.ret ?_
    repeat (first | refine Z.rthen ?_ | refine Z.rblock ?_ | refine Z.rscope ?_)
    -- ret#0
    refine Z.out1 (by exact ⟨rfl, trivial⟩) ?_
    first | exact ⟨_, rfl, rfl, hs⟩ | exact ⟨_, rfl, rfl, hs.sub (List.nil_sublist _)⟩
theorem rw_bytes {W : World} {A : Option Addr} {n c : Nat} (z : Rw Try.prog W 38 [.slice A n c]) : ∃ l : List Int, l.length = n ∧ n ≤ 140737488351232 ∧ (∀ x ∈ l, 0 ≤ x ∧ x < 256) ∧ Sl W A (ints .u8 l) := by
  have c1 : Try.prog.cellsOf 5 = 1 := by kernel_rfl
  have b1 : Try.prog.bytesOf 5 = 1 := by kernel_rfl
  obtain ⟨xs, h1, h2, h3, h4, h5, h6⟩ := Rw.rows (fun x : Int => [Value.int .u8 x]) (fun x => 0 ≤ x ∧ x < 256) Try.underlying38 (by rw [c1]; decide)
    (fun r hr => by
      obtain ⟨x, hx, wx⟩ := Rw.int Try.underlying5 hr
      have := wf_u8 wx
      exact ⟨x, hx, this.1, by omega⟩) (fun x => c1.symm) z
  rw [flat_ints] at h6
  rw [b1, Nat.mul_one] at h4
  exact ⟨xs, h1, h4, h5, h6⟩
theorem rw_cfg {W : World} {cs : List Value} (z : Rd Try.prog W 24 cs) : ∃ i r n c x : Int, cs = [.int .u64 i, .int .i64 r, .int .i64 n, .int .i64 c, .int .i64 x] ∧ (0 ≤ i ∧ i ≤ 18446744073709551615) := by
  obtain ⟨hl, hf⟩ := Rd.field Try.underlying24 z
  have c5 : Try.prog.cellsOf 24 = 5 := by kernel_rfl
  have c1 : Try.prog.cellsOf 3 = 1 := by kernel_rfl
  have c2 : Try.prog.cellsOf 22 = 1 := by kernel_rfl
  rw [c5] at hl
  obtain ⟨x0, x1, x2, x3, x4, rfl⟩ := list5 hl
  obtain ⟨a, ha, wa⟩ := Rd.int Try.underlying22 (hf 0 _ rfl)
  obtain ⟨b, hb, -⟩ := Rd.int Try.underlying3 (hf 1 _ rfl)
  obtain ⟨p, hp, -⟩ := Rd.int Try.underlying3 (hf 2 _ rfl)
  obtain ⟨q, hq, -⟩ := Rd.int Try.underlying3 (hf 3 _ rfl)
  obtain ⟨s, hs, -⟩ := Rd.int Try.underlying3 (hf 4 _ rfl)
  simp [c1, c2] at ha hb hp hq hs
  subst ha hb hp hq hs
  exact ⟨a, b, p, q, s, rfl, wf_u64 wa⟩
theorem list8 {α : Type} {l : List α} (h : l.length = 8) : ∃ a b c d e f g i, l = [a, b, c, d, e, f, g, i] := by
  match l, h with
  | [a, b, c, d, e, f, g, i], _ => exact ⟨a, b, c, d, e, f, g, i, rfl⟩
theorem rw_act27 {W : World} {cs : List Value} (z : Rw Try.prog W 57 cs) : ∃ x : AxV, cs = x.cells ∧ GoodX W [] x := by
  obtain ⟨hl, hf⟩ := Rw.field Try.underlying57 z
  have c8 : Try.prog.cellsOf 57 = 8 := by kernel_rfl
  have c1 : Try.prog.cellsOf 3 = 1 := by kernel_rfl
  have c3 : Try.prog.cellsOf 36 = 3 := by kernel_rfl
  have c2 : Try.prog.cellsOf 40 = 2 := by kernel_rfl
  have c0 : Try.prog.cellsOf 38 = 1 := by kernel_rfl
  rw [c8] at hl
  obtain ⟨x0, x1, x2, x3, x4, x5, x6, x7, rfl⟩ := list8 hl
  obtain ⟨k, hk, -⟩ := Rw.int Try.underlying3 (hf 0 _ rfl)
  obtain ⟨t, ht, -⟩ := Rw.int Try.underlying3 (hf 1 _ rfl)
  obtain ⟨d, hd, -⟩ := Rw.int Try.underlying3 (hf 2 _ rfl)
  have zr := hf 3 _ rfl
  have zp := hf 4 _ rfl
  simp [c1, c2, c3] at hk ht hd zr zp
  obtain ⟨-, hr⟩ := Rw.field Try.underlying36 zr
  obtain ⟨p, hp, -⟩ := Rw.int Try.underlying3 (hr 0 _ rfl)
  obtain ⟨r, hr1, -⟩ := Rw.int Try.underlying3 (hr 1 _ rfl)
  obtain ⟨b, hb, -⟩ := Rw.int Try.underlying3 (hr 2 _ rfl)
  obtain ⟨-, hq⟩ := Rw.field Try.underlying40 zp
  obtain ⟨lc, hlc, -⟩ := Rw.int Try.underlying3 (hq 0 _ rfl)
  have zb := hq 1 _ rfl
  obtain ⟨A, n, c, hs⟩ := Rw.sliceV Try.underlying38 zb
  rw [hs] at zb
  simp [c1, c0] at hp hr1 hb hlc hs
  subst hk ht hd hp hr1 hb hlc hs
  obtain ⟨l, rfl, h2, h3, h4⟩ := rw_bytes zb
  exact ⟨⟨k, t, d, p, r, b, lc, A, c, l⟩, rfl, h4.sx, h3, h2⟩
theorem rw_acts27 {W : World} {A : Option Addr} {n c : Nat} (z : Rw Try.prog W 48 [.slice A n c]) : ∃ l : List AxV, l.length = n ∧ n ≤ maxLen ∧ (∀ a ∈ l, GoodX W [] a) ∧ Sl W A (l.flatMap AxV.cells) := by
  have c8 : Try.prog.cellsOf 57 = 8 := by kernel_rfl
  obtain ⟨xs, h1, h2, h3, -, h4, h5⟩ := Rw.rows AxV.cells (GoodX W []) Try.underlying48 (by rw [c8]; decide) (fun r hr => rw_act27 hr) (fun x => c8.symm) z
  exact ⟨xs, h1, Nat.le_trans h2 h3, h4, h5⟩
theorem accessRuns_rd (cs0 : Array Value) (a1 : Option Addr) (len1 cap1 : Nat) (w : World) (z0 : Rw Try.prog w 24 (Value.agg cs0).cells.toList) (z1 : Rw Try.prog w 48 (Value.slice a1 len1 cap1).cells.toList) :
    Calls Try.prog 5 #[.agg cs0, .slice a1 len1 cap1] w fun e w' => e = .returned (.bool true) ∧ Below w.heap.size w w' := by
  obtain ⟨i, r, n, c, x, hr, hi⟩ := rw_cfg z0.rd
  have e : cs0 = #[.int .u64 i, .int .i64 r, .int .i64 n, .int .i64 c, .int .i64 x] := by
    have : cs0.toList = [.int .u64 i, .int .i64 r, .int .i64 n, .int .i64 c, .int .i64 x] := by simpa [Value.cells] using hr
    exact Array.toList_inj.1 this
  rw [e]
  obtain ⟨l, h1, h2, h3, h4⟩ := rw_acts27 (show Rw Try.prog w 48 [.slice a1 len1 cap1] by simpa [Value.cells] using z1)
  refine (accessRuns_walk i r n c x a1 len1 cap1 l w hi.1 h4 h1 h2 h3).mono ?_
  rintro e w' ⟨v, rfl, rfl, h⟩
  exact ⟨rfl, h.below⟩
end Go.Proofs.Ytjgfooakcljddaa

/- Random access of a handset: no handset. -/
namespace Go.Proofs.Ytjgfooakcljddaa
open Go.RowKit
set_option linter.unusedSimpArgs false
set_option linter.unusedVariables false
--newlaws

def zeroA : AcV := ⟨0, 0, 0, 0, 0, 0, 0, 0, 0, 0, 0, 0, 0⟩
/-- nil, or the zero value -/
def NoneP (w : World) (A : Option Addr) : Prop := A = none ∨ ∃ g, A = some ⟨g, 0, none⟩ ∧ Cel w g zeroA.cells
theorem NoneP.st {w W : World} {L : List SX.Ent} {A : Option Addr} (h : NoneP w A) (hs : SX.St w [] W L) : NoneP W A := by
  rcases h with h | ⟨g, h1, h2⟩
  · exact .inl h
  · exact .inr ⟨g, h1, h2.st hs⟩
theorem an_none (A : Option Addr) (w : World) (h : NoneP w A) : Calls Try.prog 36 #[.pointer A] w (SX.Ret fun v w' => v = .bool true ∧ SX.St w [] w' []) := by
  have hs := SX.St.start w
  rcases h with rfl | ⟨g, rfl, hc⟩
  · skip
    refine Z.enter Try.func36 rfl Try.ntmps36 rfl rfl ?_
    refine Z.seq ?_
    refine Z.region ?_
    refine Z.lb 1 rfl ?_
    refine Z.lnil ?_
    refine Z.only [0] rfl ?_
    refine Z.nthen ?_
    refine Z.seq ?_
    refine Z.region ?_
    refine Z.lb 1 rfl ?_
    refine Z.l rfl rfl (by rfl) (Z.keepS hs) (Z.Yd.ptrNil rfl rfl Try.underlying25) ?_
    refine Z.lb 1 rfl ?_
    refine Z.yes (s := 5) (b := true) rfl (rfl) rfl ?_
    refine Z.ls rfl rfl rfl (by rfl) ?_
    refine Z.ls rfl rfl rfl (by rfl) ?_
    refine Z.ls rfl rfl rfl (by rfl) ?_
    refine Z.ls rfl rfl rfl (by rfl) ?_
    refine Z.ls rfl rfl rfl (by rfl) ?_
    refine Z.ls rfl rfl rfl (by rfl) ?_
    refine Z.l rfl rfl (by rfl) (Z.keepS hs) (Z.Yd.pickT rfl rfl) ?_
    refine Z.lb 1 rfl ?_
    refine Z.lnil ?_
    refine Z.only [2] rfl ?_
    refine Z.nthen ?_
    refine Z.ret ?_
    -- ret#0
    refine Z.out1 (by exact ⟨rfl, trivial⟩) ?_
    first | exact ⟨_, rfl, rfl, hs⟩ | exact ⟨_, rfl, rfl, hs.sub (List.nil_sublist _)⟩
  · skip
    refine Z.enter Try.func36 rfl Try.ntmps36 rfl rfl ?_
    refine Z.seq ?_
    refine Z.region ?_
    refine Z.lb 1 rfl ?_
    refine Z.lnil ?_
    refine Z.only [0] rfl ?_
    refine Z.nthen ?_
    refine Z.seq ?_
    refine Z.region ?_
    refine Z.lb 1 rfl ?_
    refine Z.l rfl rfl (by rfl) (Z.keepS hs) (Z.Yd.ptrNil rfl rfl Try.underlying25) ?_
    refine Z.lb 1 rfl ?_
    refine Z.yes (s := 5) (b := false) rfl (rfl) rfl ?_
    refine Z.lb 1 rfl ?_
    refine Z.l rfl rfl (by rfl) (Z.keepS hs) (Z.Yd.nilc rfl rfl) ?_
    refine Z.l rfl rfl (by rfl) (Z.keepS hs) (Z.Yd.fieldA (m := 0) rfl (by kernel_rfl)) ?_
    refine Z.l rfl rfl (by rfl) (Z.keepS hs) (Z.Yd.fieldA (m := 4) rfl (by kernel_rfl)) ?_
    refine Z.l rfl rfl (by rfl) (Z.keepS hs) (Z.Yd.load rfl Try.isAgg3 (fun _ => Z.cellO hc.1 (by simp) (hc.2 4 _ rfl))) ?_
    refine Z.lb 1 rfl ?_
    refine Z.yes (s := 5) (b := false) rfl rfl rfl ?_
    refine Z.l rfl rfl (by rfl) (Z.keepS hs) (Z.Yd.pickF rfl rfl) ?_
    refine Z.lb 1 rfl ?_
    refine Z.lnil ?_
    refine Z.only [2] rfl ?_
    refine Z.nthen ?_
    refine Z.ret ?_
    -- ret#0
    refine Z.out1 (by exact ⟨rfl, trivial⟩) ?_
    first | exact ⟨_, rfl, rfl, hs⟩ | exact ⟨_, rfl, rfl, hs.sub (List.nil_sublist _)⟩
theorem an_timedB (A : Option Addr) (t : Int) (fine : Bool) (e : Int) (f : Value) (B : Option Addr) (n c : Nat) (w : World) (h : NoneP w A) : Calls Try.prog 29 #[.pointer A, .int .i64 t, .bool fine, .int .i64 e, f, .slice B n c] w (SX.Ret fun v w' => v = .tuple #[.bool false, .int .i64 1] ∧ SX.St w [] w' []) := by
  have hs := SX.St.start w
  refine Z.enter Try.func29 rfl Try.ntmps29 rfl rfl ?_
  refine Z.seq ?_
  refine Z.region ?_
  refine Z.lb 2 rfl ?_
  refine Z.lnil ?_
  refine Z.only [0, 1, 2, 3, 4, 5, 12] rfl ?_
  refine Z.nthen ?_
  refine Z.seq ?_
  refine Z.block ?_
  refine Z.seq ?_
  refine Z.region ?_
  refine Z.lb 1 rfl ?_
  refine Z.le rfl trivial ?_
  refine Z.ZO.call rfl rfl (by rfl) rfl rfl Try.call36 rfl (an_none A _ h) ?_
  rintro v1_1 w1_1 ⟨rfl, hy⟩
  replace hs := hs.call hy
  clear hy
  try simp only [List.cons_append, List.nil_append, List.append_nil] at hs
  refine Z.lb 1 rfl ?_
  refine Z.lnil ?_
  refine Z.only [0, 1, 2, 3, 4, 5, 12, 14] rfl ?_
  refine Z.nthen ?_
  refine Z.cond rfl (fun hc1 => ?_) (fun h => absurd h (by simp))
  refine Z.seq ?_
  refine Z.region ?_
  refine Z.lb 3 rfl ?_
  refine Z.lnil ?_
  refine Z.only [12, 13] rfl ?_
  refine Z.nthen ?_
  refine Z.ret ?_
  repeat (first | refine Z.rthen ?_ | refine Z.rblock ?_ | refine Z.rscope ?_)
  -- ret#0
  refine Z.out2 (by exact ⟨rfl, rfl, trivial⟩) ?_
  first | exact ⟨_, rfl, rfl, hs⟩ | exact ⟨_, rfl, rfl, hs.sub (List.nil_sublist _)⟩
theorem an_timedI (A : Option Addr) (t : Int) (fine : Bool) (e : Int) (f : Value) (B : Option Addr) (n c : Nat) (w : World) (h : NoneP w A) : Calls Try.prog 32 #[.pointer A, .int .i64 t, .bool fine, .int .i64 e, f, .slice B n c] w (SX.Ret fun v w' => v = .tuple #[.int .i64 0, .int .i64 1] ∧ SX.St w [] w' []) := by
  have hs := SX.St.start w
  refine Z.enter Try.func32 rfl Try.ntmps32 rfl rfl ?_
  refine Z.seq ?_
  refine Z.region ?_
  refine Z.lb 2 rfl ?_
  refine Z.lnil ?_
  refine Z.only [0, 1, 2, 3, 4, 5, 12] rfl ?_
  refine Z.nthen ?_
  refine Z.seq ?_
  refine Z.block ?_
  refine Z.seq ?_
  refine Z.region ?_
  refine Z.lb 1 rfl ?_
  refine Z.le rfl trivial ?_
  refine Z.ZO.call rfl rfl (by rfl) rfl rfl Try.call36 rfl (an_none A _ h) ?_
  rintro v1_1 w1_1 ⟨rfl, hy⟩
  replace hs := hs.call hy
  clear hy
  try simp only [List.cons_append, List.nil_append, List.append_nil] at hs
  refine Z.lb 1 rfl ?_
  refine Z.lnil ?_
  refine Z.only [0, 1, 2, 3, 4, 5, 12, 14] rfl ?_
  refine Z.nthen ?_
  refine Z.cond rfl (fun hc1 => ?_) (fun h => absurd h (by simp))
  refine Z.seq ?_
  refine Z.region ?_
  refine Z.lb 3 rfl ?_
  refine Z.lnil ?_
  refine Z.only [12, 13] rfl ?_
  refine Z.nthen ?_
  refine Z.ret ?_
  repeat (first | refine Z.rthen ?_ | refine Z.rblock ?_ | refine Z.rscope ?_)
  -- ret#0
  refine Z.out2 (by exact ⟨rfl, rfl, trivial⟩) ?_
  first | exact ⟨_, rfl, rfl, hs⟩ | exact ⟨_, rfl, rfl, hs.sub (List.nil_sublist _)⟩
theorem an_start (A : Option Addr) (t : Int) (w : World) (h : NoneP w A) : Calls Try.prog 11 #[.pointer A, .int .i64 t] w (SX.Ret fun v w' => v = .int .i64 1 ∧ SX.St w [] w' []) := by
  have hs := SX.St.start w
  refine Z.enter Try.func11 rfl Try.ntmps11 rfl rfl ?_
  refine Z.seq ?_
  refine Z.region ?_
  refine Z.le rfl trivial ?_
  refine Z.ZO.box rfl rfl (by rfl) rfl rfl hs ?_
  clear hs; intro g2 w2 hs
  refine Z.lb 1 rfl ?_
  refine Z.lnil ?_
  refine Z.only [1, 2] rfl ?_
  refine Z.nthen ?_
  refine Z.seq ?_
  refine Z.region ?_
  refine Z.l rfl rfl (by rfl) (Z.keepS hs) (by first | exact Z.Yd.load rfl Try.isAgg25 (fun _ => Z.cellB (by first | ((repeat (first | exact List.mem_cons_self | refine List.mem_cons_of_mem _ ?_ | refine List.mem_append_right _ ?_)); done) | fail) rfl) | exact Z.Yd.load rfl Try.isAgg25 (fun _ => Z.cellO (by assumption) (by simp) (by assumption)) | fail "load 1.0") ?_
  refine Z.lb 2 rfl ?_
  refine Z.le rfl trivial ?_
  refine Z.ZO.litL (T' := 44) [(0, 1), (1, 1), (2, 1)] [.int .i64 0, .int .i64 0, .int .i64 0] rfl rfl (by rfl) rfl rfl (by intro W; kernel_rfl) hs ?_
  clear hs; intro g11 w11 hs
  refine Z.le rfl trivial ?_
  refine Z.ZO.call rfl rfl (by rfl) rfl rfl Try.call29 rfl (an_timedB A t true 0 _ _ _ _ _ (h.st (hs.sub (List.nil_sublist _)))) ?_
  rintro v1_4 w1_4 ⟨rfl, hy⟩
  replace hs := hs.call hy
  clear hy
  try simp only [List.cons_append, List.nil_append, List.append_nil] at hs
  refine Z.lb 5 rfl ?_
  refine Z.lnil ?_
  refine Z.only [6] rfl ?_
  refine Z.nthen ?_
  refine Z.seq ?_
  refine Z.region ?_
  refine Z.lb 2 rfl ?_
  refine Z.lnil ?_
  refine Z.only [4] rfl ?_
  refine Z.nthen ?_
  refine Z.ret ?_
  -- ret#0
  refine Z.out1 (by exact ⟨rfl, trivial⟩) ?_
  exact ⟨_, rfl, rfl, hs.sub (List.nil_sublist _)⟩
theorem an_send (A : Option Addr) (t d : Int) (w : World) (h : NoneP w A) : Calls Try.prog 12 #[.pointer A, .int .i64 t, .int .i64 d] w (SX.Ret fun v w' => v = .tuple #[.int .i64 0, .int .i64 1] ∧ SX.St w [] w' []) := by
  have hs := SX.St.start w
  refine Z.enter Try.func12 rfl Try.ntmps12 rfl rfl ?_
  refine Z.seq ?_
  refine Z.region ?_
  refine Z.le rfl trivial ?_
  refine Z.ZO.box rfl rfl (by rfl) rfl rfl hs ?_
  clear hs; intro g3 w3 hs
  refine Z.le rfl trivial ?_
  refine Z.ZO.box rfl rfl (by rfl) rfl rfl hs ?_
  clear hs; intro g5 w5 hs
  refine Z.lb 2 rfl ?_
  refine Z.lnil ?_
  refine Z.only [1, 3, 5] rfl ?_
  refine Z.nthen ?_
  refine Z.seq ?_
  refine Z.region ?_
  refine Z.l rfl rfl (by rfl) (Z.keepS hs) (by first | exact Z.Yd.load rfl Try.isAgg25 (fun _ => Z.cellB (by first | ((repeat (first | exact List.mem_cons_self | refine List.mem_cons_of_mem _ ?_ | refine List.mem_append_right _ ?_)); done) | fail) rfl) | exact Z.Yd.load rfl Try.isAgg25 (fun _ => Z.cellO (by assumption) (by simp) (by assumption)) | fail "load 1.0") ?_
  refine Z.lb 1 rfl ?_
  refine Z.l rfl rfl (by rfl) (Z.keepS hs) (by first | exact Z.Yd.load rfl Try.isAgg3 (fun _ => Z.cellB (by first | ((repeat (first | exact List.mem_cons_self | refine List.mem_cons_of_mem _ ?_ | refine List.mem_append_right _ ?_)); done) | fail) rfl) | exact Z.Yd.load rfl Try.isAgg3 (fun _ => Z.cellO (by assumption) (by simp) (by assumption)) | fail "load 1.2") ?_
  refine Z.lb 2 rfl ?_
  refine Z.le rfl trivial ?_
  refine Z.ZO.litL (T' := 44) [(0, 1)] [.int .i64 0] rfl rfl (by rfl) rfl rfl (by intro W; kernel_rfl) hs ?_
  clear hs; intro g13 w13 hs
  refine Z.le rfl trivial ?_
  refine Z.ZO.call rfl rfl (by rfl) rfl rfl Try.call32 rfl (an_timedI A t _ 0 _ _ _ _ _ (h.st (hs.sub (List.nil_sublist _)))) ?_
  rintro v1_6 w1_6 ⟨rfl, hy⟩
  replace hs := hs.call hy
  clear hy
  try simp only [List.cons_append, List.nil_append, List.append_nil] at hs
  refine Z.lb 4 rfl ?_
  refine Z.lnil ?_
  refine Z.only [6, 7] rfl ?_
  refine Z.nthen ?_
  refine Z.ret ?_
  -- ret#0
  refine Z.out2 (by exact ⟨rfl, rfl, trivial⟩) ?_
  exact ⟨_, rfl, rfl, hs.sub (List.nil_sublist _)⟩
theorem an_answer (A : Option Addr) (t p r k : Int) (w : World) (h : NoneP w A) : Calls Try.prog 13 #[.pointer A, .int .i64 t, .agg #[.int .i64 p, .int .i64 r, .int .i64 k]] w (SX.Ret fun v w' => v = .tuple #[.bool false, .int .i64 1] ∧ SX.St w [] w' []) := by
  have hs := SX.St.start w
  refine Z.enter Try.func13 rfl Try.ntmps13 rfl rfl ?_
  refine Z.seq ?_
  refine Z.region ?_
  refine Z.le rfl trivial ?_
  refine Z.ZO.box rfl rfl (by rfl) rfl rfl hs ?_
  clear hs; intro g3 w3 hs
  refine Z.le rfl trivial ?_
  refine Z.ZO.box rfl rfl (by rfl) rfl rfl hs ?_
  clear hs; intro g5 w5 hs
  refine Z.lb 2 rfl ?_
  refine Z.lnil ?_
  refine Z.only [1, 3, 5] rfl ?_
  refine Z.nthen ?_
  refine Z.seq ?_
  refine Z.region ?_
  refine Z.l rfl rfl (by rfl) (Z.keepS hs) (Z.Yd.fieldA (m := 0) rfl (by kernel_rfl)) ?_
  refine Z.l rfl rfl (by rfl) (Z.keepS hs) (by first | exact Z.Yd.load rfl Try.isAgg3 (fun _ => Z.cellB (by first | ((repeat (first | exact List.mem_cons_self | refine List.mem_cons_of_mem _ ?_ | refine List.mem_append_right _ ?_)); done) | fail) rfl) | exact Z.Yd.load rfl Try.isAgg3 (fun _ => Z.cellO (by assumption) (by simp) (by assumption)) | fail "load 1.1") ?_
  refine Z.le rfl trivial ?_
  refine Z.ZO.call rfl rfl (by rfl) rfl rfl Try.call27 rfl (ac_inside p 0 63 _) ?_
  rintro v1_2 w1_2 ⟨rfl, hy⟩
  replace hs := hs.call hy
  clear hy
  try simp only [List.cons_append, List.nil_append, List.append_nil] at hs
  refine Z.lb 1 rfl ?_
  refine Z.split (s := 12) rfl (fun hsp12 => ?_) (fun hsp12 => ?_)
  · first
      | (exfalso; simp at hsp12 <;> omega)
      | (
        refine Z.yes (s := 12) (b := true) rfl hsp12 rfl ?_
        (try simp at hsp12)
        refine Z.l rfl rfl (by rfl) (Z.keepS hs) (Z.Yd.fieldA (m := 1) rfl (by kernel_rfl)) ?_
        refine Z.l rfl rfl (by rfl) (Z.keepS hs) (by first | exact Z.Yd.load rfl Try.isAgg3 (fun _ => Z.cellB (by first | ((repeat (first | exact List.mem_cons_self | refine List.mem_cons_of_mem _ ?_ | refine List.mem_append_right _ ?_)); done) | fail) rfl) | exact Z.Yd.load rfl Try.isAgg3 (fun _ => Z.cellO (by assumption) (by simp) (by assumption)) | fail "load 1.5") ?_
        refine Z.yes (s := 12) (b := true) rfl rfl rfl ?_
        refine Z.le rfl (by exact ⟨rfl, trivial⟩) ?_
        refine Z.ZO.call rfl rfl (by rfl) rfl rfl Try.call27 rfl (ac_inside r 0 65535 _) ?_
        rintro v1_6 w1_6 ⟨rfl, hy⟩
        replace hs := hs.call hy
        clear hy
        try simp only [List.cons_append, List.nil_append, List.append_nil] at hs
        refine Z.l rfl rfl (by rfl) (Z.keepS hs) (Z.Yd.pickT rfl rfl) ?_
        refine Z.lb 1 rfl ?_
        refine Z.split (s := 17) rfl (fun hsp17 => ?_) (fun hsp17 => ?_)
        · first
            | (exfalso; simp at hsp17 <;> omega)
            | (
              refine Z.yes (s := 17) (b := true) rfl hsp17 rfl ?_
              (try simp at hsp17)
              refine Z.l rfl rfl (by rfl) (Z.keepS hs) (Z.Yd.fieldA (m := 2) rfl (by kernel_rfl)) ?_
              refine Z.l rfl rfl (by rfl) (Z.keepS hs) (by first | exact Z.Yd.load rfl Try.isAgg3 (fun _ => Z.cellB (by first | ((repeat (first | exact List.mem_cons_self | refine List.mem_cons_of_mem _ ?_ | refine List.mem_append_right _ ?_)); done) | fail) rfl) | exact Z.Yd.load rfl Try.isAgg3 (fun _ => Z.cellO (by assumption) (by simp) (by assumption)) | fail "load 1.10") ?_
              refine Z.yes (s := 17) (b := true) rfl rfl rfl ?_
              refine Z.le rfl (by exact ⟨rfl, trivial⟩) ?_
              refine Z.ZO.call rfl rfl (by rfl) rfl rfl Try.call27 rfl (ac_inside k 0 960 _) ?_
              rintro v1_11 w1_11 ⟨rfl, hy⟩
              replace hs := hs.call hy
              clear hy
              try simp only [List.cons_append, List.nil_append, List.append_nil] at hs
              refine Z.l rfl rfl (by rfl) (Z.keepS hs) (Z.Yd.pickT rfl rfl) ?_
              refine Z.lb 1 rfl ?_
              refine Z.lnil ?_
              refine Z.only [1, 3, 5, 8] rfl ?_
              refine Z.nthen ?_
              refine Z.seq ?_
              refine Z.region ?_
              refine Z.l rfl rfl (by rfl) (Z.keepS hs) (by first | exact Z.Yd.load rfl Try.isAgg25 (fun _ => Z.cellB (by first | ((repeat (first | exact List.mem_cons_self | refine List.mem_cons_of_mem _ ?_ | refine List.mem_append_right _ ?_)); done) | fail) rfl) | exact Z.Yd.load rfl Try.isAgg25 (fun _ => Z.cellO (by assumption) (by simp) (by assumption)) | fail "load 2.0") ?_
              refine Z.lb 3 rfl ?_
              refine Z.le rfl trivial ?_
              refine Z.ZO.litL (T' := 44) [(0, 1)] [.int .i64 0] rfl rfl (by rfl) rfl rfl (by intro W; kernel_rfl) hs ?_
              clear hs; intro g26 w26 hs
              refine Z.le rfl trivial ?_
              refine Z.ZO.call rfl rfl (by rfl) rfl rfl Try.call29 rfl (an_timedB A t _ 0 _ _ _ _ _ (h.st (hs.sub (List.nil_sublist _)))) ?_
              rintro v2_5 w2_5 ⟨rfl, hy⟩
              replace hs := hs.call hy
              clear hy
              try simp only [List.cons_append, List.nil_append, List.append_nil] at hs
              refine Z.lb 4 rfl ?_
              refine Z.lnil ?_
              refine Z.only [6, 7] rfl ?_
              refine Z.nthen ?_
              refine Z.ret ?_
              -- ret#0
              refine Z.out2 (by exact ⟨rfl, rfl, trivial⟩) ?_
              exact ⟨_, rfl, rfl, hs.sub (List.nil_sublist _)⟩
              )
        · first
            | (exfalso; simp at hsp17 <;> omega)
            | (
              refine Z.yes (s := 17) (b := false) rfl hsp17 rfl ?_
              (try simp at hsp17)
              refine Z.ls rfl rfl rfl (by rfl) ?_
              refine Z.ls rfl rfl rfl (by rfl) ?_
              refine Z.ls rfl rfl rfl (by rfl) ?_
              refine Z.l rfl rfl (by rfl) (Z.keepS hs) (Z.Yd.pickF rfl rfl) ?_
              refine Z.lb 1 rfl ?_
              refine Z.lnil ?_
              refine Z.only [1, 3, 5, 8] rfl ?_
              refine Z.nthen ?_
              refine Z.seq ?_
              refine Z.region ?_
              refine Z.l rfl rfl (by rfl) (Z.keepS hs) (by first | exact Z.Yd.load rfl Try.isAgg25 (fun _ => Z.cellB (by first | ((repeat (first | exact List.mem_cons_self | refine List.mem_cons_of_mem _ ?_ | refine List.mem_append_right _ ?_)); done) | fail) rfl) | exact Z.Yd.load rfl Try.isAgg25 (fun _ => Z.cellO (by assumption) (by simp) (by assumption)) | fail "load 2.0") ?_
              refine Z.lb 3 rfl ?_
              refine Z.le rfl trivial ?_
              refine Z.ZO.litL (T' := 44) [(0, 1)] [.int .i64 0] rfl rfl (by rfl) rfl rfl (by intro W; kernel_rfl) hs ?_
              clear hs; intro g26 w26 hs
              refine Z.le rfl trivial ?_
              refine Z.ZO.call rfl rfl (by rfl) rfl rfl Try.call29 rfl (an_timedB A t _ 0 _ _ _ _ _ (h.st (hs.sub (List.nil_sublist _)))) ?_
              rintro v2_5 w2_5 ⟨rfl, hy⟩
              replace hs := hs.call hy
              clear hy
              try simp only [List.cons_append, List.nil_append, List.append_nil] at hs
              refine Z.lb 4 rfl ?_
              refine Z.lnil ?_
              refine Z.only [6, 7] rfl ?_
              refine Z.nthen ?_
              refine Z.ret ?_
              -- ret#1
              refine Z.out2 (by exact ⟨rfl, rfl, trivial⟩) ?_
              exact ⟨_, rfl, rfl, hs.sub (List.nil_sublist _)⟩
              )
        )
  · first
      | (exfalso; simp at hsp12 <;> omega)
      | (
        refine Z.yes (s := 12) (b := false) rfl hsp12 rfl ?_
        (try simp at hsp12)
        refine Z.ls rfl rfl rfl (by rfl) ?_
        refine Z.ls rfl rfl rfl (by rfl) ?_
        refine Z.ls rfl rfl rfl (by rfl) ?_
        refine Z.l rfl rfl (by rfl) (Z.keepS hs) (Z.Yd.pickF rfl rfl) ?_
        refine Z.lb 1 rfl ?_
        refine Z.split (s := 17) rfl (fun hsp17 => ?_) (fun hsp17 => ?_)
        · first
            | (exfalso; simp at hsp17 <;> omega)
            | (
              refine Z.yes (s := 17) (b := true) rfl hsp17 rfl ?_
              (try simp at hsp17)
              refine Z.l rfl rfl (by rfl) (Z.keepS hs) (Z.Yd.fieldA (m := 2) rfl (by kernel_rfl)) ?_
              refine Z.l rfl rfl (by rfl) (Z.keepS hs) (by first | exact Z.Yd.load rfl Try.isAgg3 (fun _ => Z.cellB (by first | ((repeat (first | exact List.mem_cons_self | refine List.mem_cons_of_mem _ ?_ | refine List.mem_append_right _ ?_)); done) | fail) rfl) | exact Z.Yd.load rfl Try.isAgg3 (fun _ => Z.cellO (by assumption) (by simp) (by assumption)) | fail "load 1.10") ?_
              refine Z.yes (s := 17) (b := true) rfl rfl rfl ?_
              refine Z.le rfl (by exact ⟨rfl, trivial⟩) ?_
              refine Z.ZO.call rfl rfl (by rfl) rfl rfl Try.call27 rfl (ac_inside k 0 960 _) ?_
              rintro v1_11 w1_11 ⟨rfl, hy⟩
              replace hs := hs.call hy
              clear hy
              try simp only [List.cons_append, List.nil_append, List.append_nil] at hs
              refine Z.l rfl rfl (by rfl) (Z.keepS hs) (Z.Yd.pickT rfl rfl) ?_
              refine Z.lb 1 rfl ?_
              refine Z.lnil ?_
              refine Z.only [1, 3, 5, 8] rfl ?_
              refine Z.nthen ?_
              refine Z.seq ?_
              refine Z.region ?_
              refine Z.l rfl rfl (by rfl) (Z.keepS hs) (by first | exact Z.Yd.load rfl Try.isAgg25 (fun _ => Z.cellB (by first | ((repeat (first | exact List.mem_cons_self | refine List.mem_cons_of_mem _ ?_ | refine List.mem_append_right _ ?_)); done) | fail) rfl) | exact Z.Yd.load rfl Try.isAgg25 (fun _ => Z.cellO (by assumption) (by simp) (by assumption)) | fail "load 2.0") ?_
              refine Z.lb 3 rfl ?_
              refine Z.le rfl trivial ?_
              refine Z.ZO.litL (T' := 44) [(0, 1)] [.int .i64 0] rfl rfl (by rfl) rfl rfl (by intro W; kernel_rfl) hs ?_
              clear hs; intro g26 w26 hs
              refine Z.le rfl trivial ?_
              refine Z.ZO.call rfl rfl (by rfl) rfl rfl Try.call29 rfl (an_timedB A t _ 0 _ _ _ _ _ (h.st (hs.sub (List.nil_sublist _)))) ?_
              rintro v2_5 w2_5 ⟨rfl, hy⟩
              replace hs := hs.call hy
              clear hy
              try simp only [List.cons_append, List.nil_append, List.append_nil] at hs
              refine Z.lb 4 rfl ?_
              refine Z.lnil ?_
              refine Z.only [6, 7] rfl ?_
              refine Z.nthen ?_
              refine Z.ret ?_
              -- ret#2
              refine Z.out2 (by exact ⟨rfl, rfl, trivial⟩) ?_
              exact ⟨_, rfl, rfl, hs.sub (List.nil_sublist _)⟩
              )
        · first
            | (exfalso; simp at hsp17 <;> omega)
            | (
              refine Z.yes (s := 17) (b := false) rfl hsp17 rfl ?_
              (try simp at hsp17)
              refine Z.ls rfl rfl rfl (by rfl) ?_
              refine Z.ls rfl rfl rfl (by rfl) ?_
              refine Z.ls rfl rfl rfl (by rfl) ?_
              refine Z.l rfl rfl (by rfl) (Z.keepS hs) (Z.Yd.pickF rfl rfl) ?_
              refine Z.lb 1 rfl ?_
              refine Z.lnil ?_
              refine Z.only [1, 3, 5, 8] rfl ?_
              refine Z.nthen ?_
              refine Z.seq ?_
              refine Z.region ?_
              refine Z.l rfl rfl (by rfl) (Z.keepS hs) (by first | exact Z.Yd.load rfl Try.isAgg25 (fun _ => Z.cellB (by first | ((repeat (first | exact List.mem_cons_self | refine List.mem_cons_of_mem _ ?_ | refine List.mem_append_right _ ?_)); done) | fail) rfl) | exact Z.Yd.load rfl Try.isAgg25 (fun _ => Z.cellO (by assumption) (by simp) (by assumption)) | fail "load 2.0") ?_
              refine Z.lb 3 rfl ?_
              refine Z.le rfl trivial ?_
              refine Z.ZO.litL (T' := 44) [(0, 1)] [.int .i64 0] rfl rfl (by rfl) rfl rfl (by intro W; kernel_rfl) hs ?_
              clear hs; intro g26 w26 hs
              refine Z.le rfl trivial ?_
              refine Z.ZO.call rfl rfl (by rfl) rfl rfl Try.call29 rfl (an_timedB A t _ 0 _ _ _ _ _ (h.st (hs.sub (List.nil_sublist _)))) ?_
              rintro v2_5 w2_5 ⟨rfl, hy⟩
              replace hs := hs.call hy
              clear hy
              try simp only [List.cons_append, List.nil_append, List.append_nil] at hs
              refine Z.lb 4 rfl ?_
              refine Z.lnil ?_
              refine Z.only [6, 7] rfl ?_
              refine Z.nthen ?_
              refine Z.ret ?_
              -- ret#3
              refine Z.out2 (by exact ⟨rfl, rfl, trivial⟩) ?_
              exact ⟨_, rfl, rfl, hs.sub (List.nil_sublist _)⟩
              )
        )
theorem an_resolve (A : Option Addr) (t lc : Int) (B : Option Addr) (n c : Nat) (l : List Int) (w : World) (h : NoneP w A) (hx : Sx w [] B (ints .u8 l)) (hl : l.length = n) (hn : n ≤ 9223372036854775807) (hb : Byts l) : Calls Try.prog 16 #[.pointer A, .int .i64 t, .agg #[.int .i64 lc, .slice B n c]] w (SX.Ret fun v w' => v = .tuple #[.bool false, .int .i64 1] ∧ SX.St w [] w' []) := by
  have hs := SX.St.start w
  refine Z.enter Try.func16 rfl Try.ntmps16 rfl rfl ?_
  refine Z.seq ?_
  refine Z.region ?_
  refine Z.le rfl trivial ?_
  refine Z.ZO.box rfl rfl (by rfl) rfl rfl hs ?_
  clear hs; intro g3 w3 hs
  refine Z.le rfl trivial ?_
  refine Z.ZO.box rfl rfl (by rfl) rfl rfl hs ?_
  clear hs; intro g5 w5 hs
  refine Z.lb 2 rfl ?_
  refine Z.lnil ?_
  refine Z.only [1, 3, 5] rfl ?_
  refine Z.nthen ?_
  refine Z.seq ?_
  refine Z.region ?_
  refine Z.l rfl rfl (by rfl) (Z.keepS hs) (by first | exact Z.Yd.loadA _ rfl Try.isAgg40 (fun _ => Z.cellsB (by first | ((repeat (first | exact List.mem_cons_self | refine List.mem_cons_of_mem _ ?_ | refine List.mem_append_right _ ?_)); done) | fail)) (by exact Try.sizeOf40) | fail "load 1.0") ?_
  refine Z.le rfl trivial ?_
  refine Z.ZO.call rfl rfl (by rfl) rfl rfl Try.call38 rfl (decid_any lc B n c l _ ((hx.st (hs.sub (List.nil_sublist _))).sx) hl hn hb) ?_
  rintro v1_1 w1_1 ⟨rfl, hy⟩
  replace hs := hs.call hy
  clear hy
  try simp only [List.cons_append, List.nil_append, List.append_nil] at hs
  refine Z.lb 5 rfl ?_
  refine Z.lnil ?_
  refine Z.only [1, 3, 5, 9] rfl ?_
  refine Z.nthen ?_
  refine Z.seq ?_
  refine Z.region ?_
  refine Z.l rfl rfl (by rfl) (Z.keepS hs) (by first | exact Z.Yd.load rfl Try.isAgg25 (fun _ => Z.cellB (by first | ((repeat (first | exact List.mem_cons_self | refine List.mem_cons_of_mem _ ?_ | refine List.mem_append_right _ ?_)); done) | fail) rfl) | exact Z.Yd.load rfl Try.isAgg25 (fun _ => Z.cellO (by assumption) (by simp) (by assumption)) | fail "load 2.0") ?_
  refine Z.lb 3 rfl ?_
  refine Z.le rfl trivial ?_
  refine Z.ZO.litL (T' := 44) [(0, 1)] [.int .i64 0] rfl rfl (by rfl) rfl rfl (by intro W; kernel_rfl) hs ?_
  clear hs; intro g19 w19 hs
  refine Z.le rfl trivial ?_
  refine Z.ZO.call rfl rfl (by rfl) rfl rfl Try.call29 rfl (an_timedB A t true _ _ _ _ _ _ (h.st (hs.sub (List.nil_sublist _)))) ?_
  rintro v2_5 w2_5 ⟨rfl, hy⟩
  replace hs := hs.call hy
  clear hy
  try simp only [List.cons_append, List.nil_append, List.append_nil] at hs
  refine Z.lb 4 rfl ?_
  refine Z.lnil ?_
  refine Z.only [6, 7] rfl ?_
  refine Z.nthen ?_
  refine Z.ret ?_
  -- ret#0
  refine Z.out2 (by exact ⟨rfl, rfl, trivial⟩) ?_
  exact ⟨_, rfl, rfl, hs.sub (List.nil_sublist _)⟩
theorem an_tick (A : Option Addr) (t : Int) (w : World) (h : NoneP w A) : Calls Try.prog 24 #[.pointer A, .int .i64 t] w (SX.Ret fun v w' => v = .int .i64 1 ∧ SX.St w [] w' []) := by
  have hs := SX.St.start w
  refine Z.enter Try.func24 rfl Try.ntmps24 rfl rfl ?_
  refine Z.seq ?_
  refine Z.region ?_
  refine Z.lb 1 rfl ?_
  refine Z.lnil ?_
  refine Z.only [0, 1] rfl ?_
  refine Z.nthen ?_
  refine Z.seq ?_
  refine Z.region ?_
  refine Z.lb 2 rfl ?_
  refine Z.le rfl trivial ?_
  refine Z.ZO.litL (T' := 44) [(0, 1), (1, 1), (2, 1), (3, 1), (4, 1), (5, 1)] [.int .i64 0, .int .i64 0, .int .i64 0, .int .i64 0, .int .i64 0, .int .i64 0] rfl rfl (by rfl) rfl rfl (by intro W; kernel_rfl) hs ?_
  clear hs; intro g10 w10 hs
  refine Z.le rfl trivial ?_
  refine Z.ZO.call rfl rfl (by rfl) rfl rfl Try.call29 rfl (an_timedB A t true 0 _ _ _ _ _ (h.st (hs.sub (List.nil_sublist _)))) ?_
  rintro v1_3 w1_3 ⟨rfl, hy⟩
  replace hs := hs.call hy
  clear hy
  try simp only [List.cons_append, List.nil_append, List.append_nil] at hs
  refine Z.lb 5 rfl ?_
  refine Z.lnil ?_
  refine Z.only [6] rfl ?_
  refine Z.nthen ?_
  refine Z.seq ?_
  refine Z.region ?_
  refine Z.lb 2 rfl ?_
  refine Z.lnil ?_
  refine Z.only [4] rfl ?_
  refine Z.nthen ?_
  refine Z.ret ?_
  -- ret#0
  refine Z.out1 (by exact ⟨rfl, trivial⟩) ?_
  exact ⟨_, rfl, rfl, hs.sub (List.nil_sublist _)⟩
theorem an_message (A : Option Addr) (w : World) (h : NoneP w A) : Calls Try.prog 15 #[.pointer A] w (SX.Ret fun v w' => v = .tuple #[.agg #[.int .i64 0, .slice none 0 0], .int .i64 1] ∧ SX.St w [] w' []) := by
  have hs := SX.St.start w
  refine Z.enter Try.func15 rfl Try.ntmps15 rfl rfl ?_
  refine Z.seq ?_
  refine Z.region ?_
  refine Z.le rfl trivial ?_
  refine Z.ZO.alloc rfl rfl (by rfl) Try.zeroValue40 rfl hs ?_
  clear hs; intro g2 w2 hs
  refine Z.lb 1 rfl ?_
  refine Z.lnil ?_
  refine Z.only [0, 2] rfl ?_
  refine Z.nthen ?_
  refine Z.seq ?_
  refine Z.block ?_
  refine Z.seq ?_
  refine Z.region ?_
  refine Z.lb 1 rfl ?_
  refine Z.le rfl trivial ?_
  refine Z.ZO.call rfl rfl (by rfl) rfl rfl Try.call36 rfl (an_none A _ (h.st (hs.sub (List.nil_sublist _)))) ?_
  rintro v1_1 w1_1 ⟨rfl, hy⟩
  replace hs := hs.call hy
  clear hy
  try simp only [List.cons_append, List.nil_append, List.append_nil] at hs
  refine Z.lb 1 rfl ?_
  refine Z.lnil ?_
  refine Z.only [0, 2, 4] rfl ?_
  refine Z.nthen ?_
  refine Z.cond rfl (fun hc1 => ?_) (fun h => absurd h (by simp))
  refine Z.seq ?_
  refine Z.region ?_
  refine Z.l rfl rfl (by rfl) (Z.keepS hs) (Z.Yd.buildL [(0, 1), (1, 1)] [.int .i64 0, .slice none 0 0] rfl rfl (by intro w; kernel_rfl)) ?_
  refine Z.le rfl trivial ?_
  first | refine Z.ZO.storeA rfl rfl hs rfl rfl (by kernel_rfl) (by first | (simp [Value.oneCell']; done) | (refine Z.all_one ?_; assumption)) (by first | exact SX.at0 | exact SX.at1 | exact SX.at2 | exact SX.at3 | exact SX.at4 | exact SX.at5 | exact Z.at6 | exact Z.at7 | exact Z.at8 | exact Z.at9 | exact Z.at10 | exact Z.at11 | exact Z.at12) (by rfl) ?_ | refine Z.ZO.storeP rfl rfl hs rfl rfl (by kernel_rfl) (by first | (simp [Value.oneCell']; done) | (refine Z.all_one ?_; assumption)) (by first | exact SX.at0 | exact SX.at1 | exact SX.at2 | exact SX.at3 | exact SX.at4 | exact SX.at5 | exact Z.at6 | exact Z.at7 | exact Z.at8 | exact Z.at9 | exact Z.at10 | exact Z.at11 | exact Z.at12) (by first | decide | (simp; done) | (simp; omega)) ?_ | refine Z.ZO.storePR rfl rfl hs rfl rfl (by kernel_rfl) (by first | (simp [Value.oneCell']; done) | (refine Z.all_one ?_; assumption)) (by first | exact SX.at0 | exact SX.at1 | exact SX.at2 | exact SX.at3 | exact SX.at4 | exact SX.at5 | exact Z.at6 | exact Z.at7 | exact Z.at8 | exact Z.at9 | exact Z.at10 | exact Z.at11 | exact Z.at12) (by first | decide | (simp; done) | (simp; omega)) ?_
  clear hs; intro ws hs
  simp only [Nat.zero_add, Nat.add_zero, Nat.reduceAdd, Int.reduceToNat, Nat.reduceMul, List.set_cons_zero, List.set_cons_succ, List.setIfInBounds_toArray] at hs
  try simp only [Z.putL, Nat.zero_add] at hs
  refine Z.lb 1 rfl ?_
  refine Z.lnil ?_
  refine Z.only [2, 3] rfl ?_
  refine Z.nthen ?_
  refine Z.ret ?_
  repeat (first | refine Z.rthen ?_ | refine Z.rblock ?_ | refine Z.rscope ?_)
  -- ret#0
  refine Z.out2 (by exact ⟨⟨_, rfl, Z.rvcA hs Try.isAgg40 (by first | ((repeat (first | exact List.mem_cons_self | refine List.mem_cons_of_mem _ ?_ | refine List.mem_append_right _ ?_)); done) | fail) (by exact Try.sizeOf40)⟩, rfl, trivial⟩) ?_
  exact ⟨_, rfl, rfl, hs.sub (List.nil_sublist _)⟩
theorem an_state (A : Option Addr) (w : World) (h : NoneP w A) : Calls Try.prog 17 #[.pointer A] w (SX.Ret fun v w' => v = .int .i64 0 ∧ SX.St w [] w' []) := by
  have hs := SX.St.start w
  refine Z.enter Try.func17 rfl Try.ntmps17 rfl rfl ?_
  refine Z.seq ?_
  refine Z.region ?_
  refine Z.lb 1 rfl ?_
  refine Z.lnil ?_
  refine Z.only [0] rfl ?_
  refine Z.nthen ?_
  refine Z.seq ?_
  refine Z.seq ?_
  refine Z.region ?_
  refine Z.lb 1 rfl ?_
  refine Z.le rfl trivial ?_
  refine Z.ZO.call rfl rfl (by rfl) rfl rfl Try.call36 rfl (an_none A _ h) ?_
  rintro v1_1 w1_1 ⟨rfl, hy⟩
  replace hs := hs.call hy
  clear hy
  try simp only [List.cons_append, List.nil_append, List.append_nil] at hs
  refine Z.lnil ?_
  refine Z.only [0, 4] rfl ?_
  refine Z.nthen ?_
  refine Z.cond rfl (fun hc1 => ?_) (fun h => absurd h (by simp))
  refine Z.seq ?_
  refine Z.region ?_
  refine Z.lb 1 rfl ?_
  refine Z.lnil ?_
  refine Z.only [2] rfl ?_
  refine Z.nthen ?_
  refine Z.ret ?_
  repeat (first | refine Z.rthen ?_ | refine Z.rblock ?_ | refine Z.rscope ?_)
  -- ret#0
  refine Z.out1 (by exact ⟨rfl, trivial⟩) ?_
  first | exact ⟨_, rfl, rfl, hs⟩ | exact ⟨_, rfl, rfl, hs.sub (List.nil_sublist _)⟩
theorem an_due (A : Option Addr) (w : World) (h : NoneP w A) : Calls Try.prog 18 #[.pointer A] w (SX.Ret fun v w' => v = .int .i64 (-1) ∧ SX.St w [] w' []) := by
  have hs := SX.St.start w
  refine Z.enter Try.func18 rfl Try.ntmps18 rfl rfl ?_
  refine Z.seq ?_
  refine Z.region ?_
  refine Z.lb 1 rfl ?_
  refine Z.lnil ?_
  refine Z.only [0] rfl ?_
  refine Z.nthen ?_
  refine Z.seq ?_
  refine Z.seq ?_
  refine Z.region ?_
  refine Z.lb 1 rfl ?_
  refine Z.le rfl trivial ?_
  refine Z.ZO.call rfl rfl (by rfl) rfl rfl Try.call36 rfl (an_none A _ h) ?_
  rintro v1_1 w1_1 ⟨rfl, hy⟩
  replace hs := hs.call hy
  clear hy
  try simp only [List.cons_append, List.nil_append, List.append_nil] at hs
  refine Z.lnil ?_
  refine Z.only [0, 4] rfl ?_
  refine Z.nthen ?_
  refine Z.cond rfl (fun hc1 => ?_) (fun h => absurd h (by simp))
  refine Z.seq ?_
  refine Z.region ?_
  refine Z.lb 1 rfl ?_
  refine Z.lnil ?_
  refine Z.only [2] rfl ?_
  refine Z.nthen ?_
  refine Z.ret ?_
  repeat (first | refine Z.rthen ?_ | refine Z.rblock ?_ | refine Z.rscope ?_)
  -- ret#0
  refine Z.out1 (by exact ⟨rfl, trivial⟩) ?_
  first | exact ⟨_, rfl, rfl, hs⟩ | exact ⟨_, rfl, rfl, hs.sub (List.nil_sublist _)⟩
theorem an_attempts (A : Option Addr) (w : World) (h : NoneP w A) : Calls Try.prog 23 #[.pointer A] w (SX.Ret fun v w' => v = .int .i64 0 ∧ SX.St w [] w' []) := by
  have hs := SX.St.start w
  refine Z.enter Try.func23 rfl Try.ntmps23 rfl rfl ?_
  refine Z.seq ?_
  refine Z.region ?_
  refine Z.lb 1 rfl ?_
  refine Z.lnil ?_
  refine Z.only [0] rfl ?_
  refine Z.nthen ?_
  refine Z.seq ?_
  refine Z.seq ?_
  refine Z.region ?_
  refine Z.lb 1 rfl ?_
  refine Z.le rfl trivial ?_
  refine Z.ZO.call rfl rfl (by rfl) rfl rfl Try.call36 rfl (an_none A _ h) ?_
  rintro v1_1 w1_1 ⟨rfl, hy⟩
  replace hs := hs.call hy
  clear hy
  try simp only [List.cons_append, List.nil_append, List.append_nil] at hs
  refine Z.lnil ?_
  refine Z.only [0, 4] rfl ?_
  refine Z.nthen ?_
  refine Z.cond rfl (fun hc1 => ?_) (fun h => absurd h (by simp))
  refine Z.seq ?_
  refine Z.region ?_
  refine Z.lb 1 rfl ?_
  refine Z.lnil ?_
  refine Z.only [2] rfl ?_
  refine Z.nthen ?_
  refine Z.ret ?_
  repeat (first | refine Z.rthen ?_ | refine Z.rblock ?_ | refine Z.rscope ?_)
  -- ret#0
  refine Z.out1 (by exact ⟨rfl, trivial⟩) ?_
  first | exact ⟨_, rfl, rfl, hs⟩ | exact ⟨_, rfl, rfl, hs.sub (List.nil_sublist _)⟩
theorem an_rnti (A : Option Addr) (w : World) (h : NoneP w A) : Calls Try.prog 14 #[.pointer A] w (SX.Ret fun v w' => v = .int .i64 0 ∧ SX.St w [] w' []) := by
  have hs := SX.St.start w
  refine Z.enter Try.func14 rfl Try.ntmps14 rfl rfl ?_
  refine Z.seq ?_
  refine Z.region ?_
  refine Z.lb 1 rfl ?_
  refine Z.lnil ?_
  refine Z.only [0] rfl ?_
  refine Z.nthen ?_
  refine Z.seq ?_
  refine Z.block ?_
  refine Z.seq ?_
  refine Z.region ?_
  refine Z.lb 1 rfl ?_
  refine Z.le rfl trivial ?_
  refine Z.ZO.call rfl rfl (by rfl) rfl rfl Try.call36 rfl (an_none A _ h) ?_
  rintro v1_1 w1_1 ⟨rfl, hy⟩
  replace hs := hs.call hy
  clear hy
  try simp only [List.cons_append, List.nil_append, List.append_nil] at hs
  refine Z.lb 1 rfl ?_
  refine Z.yes (s := 6) (b := true) rfl (rfl) rfl ?_
  refine Z.ls rfl rfl rfl (by rfl) ?_
  refine Z.ls rfl rfl rfl (by rfl) ?_
  refine Z.ls rfl rfl rfl (by rfl) ?_
  refine Z.ls rfl rfl rfl (by rfl) ?_
  refine Z.ls rfl rfl rfl (by rfl) ?_
  refine Z.l rfl rfl (by rfl) (Z.keepS hs) (Z.Yd.pickT rfl rfl) ?_
  refine Z.lb 1 rfl ?_
  refine Z.lnil ?_
  refine Z.only [0, 3] rfl ?_
  refine Z.nthen ?_
  refine Z.cond rfl (fun hc1 => ?_) (fun h => absurd h (by simp))
  refine Z.seq ?_
  refine Z.region ?_
  refine Z.lb 1 rfl ?_
  refine Z.lnil ?_
  refine Z.only [2] rfl ?_
  refine Z.nthen ?_
  refine Z.ret ?_
  repeat (first | refine Z.rthen ?_ | refine Z.rblock ?_ | refine Z.rscope ?_)
  -- ret#0
  refine Z.out1 (by exact ⟨rfl, trivial⟩) ?_
  first | exact ⟨_, rfl, rfl, hs⟩ | exact ⟨_, rfl, rfl, hs.sub (List.nil_sublist _)⟩
theorem an_copy (A : Option Addr) (w : World) (h : NoneP w A) : Calls Try.prog 25 #[.pointer A] w (SX.Ret fun v w' => v = .pointer none ∧ SX.St w [] w' []) := by
  have hs := SX.St.start w
  refine Z.enter Try.func25 rfl Try.ntmps25 rfl rfl ?_
  refine Z.seq ?_
  refine Z.region ?_
  refine Z.lb 1 rfl ?_
  refine Z.lnil ?_
  refine Z.only [0] rfl ?_
  refine Z.nthen ?_
  refine Z.seq ?_
  refine Z.seq ?_
  refine Z.region ?_
  refine Z.lb 1 rfl ?_
  refine Z.le rfl trivial ?_
  refine Z.ZO.call rfl rfl (by rfl) rfl rfl Try.call36 rfl (an_none A _ h) ?_
  rintro v1_1 w1_1 ⟨rfl, hy⟩
  replace hs := hs.call hy
  clear hy
  try simp only [List.cons_append, List.nil_append, List.append_nil] at hs
  refine Z.lnil ?_
  refine Z.only [0, 5] rfl ?_
  refine Z.nthen ?_
  refine Z.cond rfl (fun hc1 => ?_) (fun h => absurd h (by simp))
  refine Z.seq ?_
  refine Z.region ?_
  refine Z.lb 1 rfl ?_
  refine Z.lnil ?_
  refine Z.only [2] rfl ?_
  refine Z.nthen ?_
  refine Z.ret ?_
  repeat (first | refine Z.rthen ?_ | refine Z.rblock ?_ | refine Z.rscope ?_)
  -- ret#0
  refine Z.out1 (by exact ⟨rfl, trivial⟩) ?_
  first | exact ⟨_, rfl, rfl, hs⟩ | exact ⟨_, rfl, rfl, hs.sub (List.nil_sublist _)⟩
set_option maxHeartbeats 1000000 in
set_option maxRecDepth 100000 in
theorem accessNil_walk (x : AxV) (w : World) (hg : GoodX w [] x) :
    Calls Try.prog 8 #[.agg x.cells.toArray] w (SX.Ret fun v w' => v = .bool true ∧ SX.St w [] w' []) := by
  have hs := SX.St.start w
  have hone1 := ax_one x
  have hlen := hg.len
  refine Z.enter Try.func8 rfl Try.ntmps8 rfl rfl ?_
  refine Z.seq ?_
  refine Z.region ?_
  refine Z.le rfl trivial ?_
  refine Z.ZO.box rfl rfl (by rfl) rfl rfl hs ?_
  clear hs; intro g1 w1 hs
  refine Z.lb 1 rfl ?_
  refine Z.lnil ?_
  refine Z.only [1] rfl ?_
  refine Z.nthen ?_
  refine Z.seq ?_
  refine Z.region ?_
  refine Z.lb 1 rfl ?_
  refine Z.lnil ?_
  refine Z.only [1, 3] rfl ?_
  refine Z.nthen ?_
  refine Z.seq ?_
  refine Z.seq ?_
  refine Z.region ?_
  refine Z.lb 1 rfl ?_
  refine Z.l rfl rfl (by rfl) (Z.keepS hs) (Z.Yd.buildL [(0, 5), (5, 1), (6, 1), (7, 1), (8, 1), (9, 1), (10, 1), (11, 1), (12, 1)] [.int .u64 0, .int .i64 0, .int .i64 0, .int .i64 0, .int .i64 0, .int .i64 0, .int .i64 0, .int .i64 0, .int .i64 0, .int .i64 0, .int .i64 0, .int .i64 0, .int .i64 0] rfl rfl (by intro w; kernel_rfl)) ?_
  refine Z.le rfl trivial ?_
  refine Z.ZO.box rfl rfl (by rfl) rfl rfl hs ?_
  clear hs; intro g18 w18 hs
  refine Z.le rfl trivial ?_
  refine Z.ZO.litL (T' := 25) [(0, 1), (1, 1)] [.pointer none, .pointer none] rfl rfl (by rfl) rfl rfl (by intro W; kernel_rfl) hs ?_
  clear hs; intro g19 w19 hs
  refine Z.l rfl rfl (by rfl) (Z.keepS hs) (Z.Yd.lenS rfl Try.underlying65) ?_
  refine Z.lb 1 rfl ?_
  refine Z.lnil ?_
  refine Z.only [1, 19, 20, 21] rfl ?_
  refine Z.nthen ?_
  refine Z.block ?_
  refine Z.loopk (ι := Nat) [1, 19, 20] rfl (fun k => [(21, [], .int .i64 (k : Int))]) (fun k wr => k ≤ 2 ∧ SX.St w [] wr [SX.Ent.blk g19 25 #[.pointer none, .pointer (some ⟨g18, 0, none⟩)], SX.Ent.blk g18 64 zeroA.cells.toArray, SX.Ent.blk g1 57 x.cells.toArray]) (fun k => 2 - k) 0 (by refine ⟨?_, trivial⟩ <;> (first | rfl | (refine Z.lookv rfl ?_; simp; done) | (refine Z.lookv rfl ?_; simp; omega))) ⟨by omega, hs⟩ ?_
  clear hs
  rintro k w2 ⟨hk, hs⟩
  refine Z.only [1, 19, 20, 21] rfl ?_
  refine Z.seq ?_
  refine Z.region ?_
  refine Z.lb 1 rfl ?_
  refine Z.lnil ?_
  refine Z.only [1, 19, 20, 21, 22] rfl ?_
  refine Z.nthen ?_
  refine Z.seq ?_
  refine Z.cond rfl (fun hc3 => ?_) (fun hc3 => ?_)
  · first
      | (exfalso; simp at hc3 <;> omega)
      | (
        (try simp at hc3)
        obtain ⟨A, hA, hAA⟩ : ∃ A, Z.nth [.pointer none, .pointer (some ⟨g18, 0, none⟩)] (0 + (k : Int).toNat * 1) = some (.pointer A) ∧ (A = none ∨ A = some ⟨g18, 0, none⟩) := by
          have h01 : k = 0 ∨ k = 1 := by omega
          rcases h01 with rfl | rfl
          · exact ⟨none, rfl, .inl rfl⟩
          · exact ⟨_, rfl, .inr rfl⟩
        have hN : ∀ W L, SX.St w [] W L → SX.Ent.blk g18 64 zeroA.cells.toArray ∈ L → NoneP W A := fun W L hW hm => hAA.elim (fun h => .inl h) (fun h => .inr ⟨g18, h, hW.celOf hm⟩)
        refine Z.skip ?_
        refine Z.nthen ?_
        refine Z.seq ?_
        refine Z.block ?_
        refine Z.seq ?_
        refine Z.region ?_
        refine Z.l rfl rfl (by rfl) (Z.keepS hs) (Z.Yd.elem rfl rfl Try.underlying65 Try.sizeOf25 (fun hG => ⟨(by first | omega | (have hG' := Z.gh rfl hG; simp at hG'; omega)), (by first | omega | (have hG' := Z.gh rfl hG; simp at hG'; omega))⟩)) ?_
        refine Z.l rfl rfl (by rfl) (Z.keepS hs) (Z.Yd.load rfl Try.isAgg25 (fun _ => Z.cellB (cs := #[.pointer none, .pointer (some ⟨g18, 0, none⟩)]) (by first | ((repeat (first | exact List.mem_cons_self | refine List.mem_cons_of_mem _ ?_ | refine List.mem_append_right _ ?_)); done) | fail) hA)) ?_
        refine Z.lb 1 rfl ?_
        refine Z.lnil ?_
        refine Z.only [1, 5, 19, 20, 21] rfl ?_
        refine Z.nthen ?_
        refine Z.seq ?_
        refine Z.region ?_
        refine Z.lb 1 rfl ?_
        refine Z.l rfl rfl (by rfl) (Z.keepS hs) (Z.Yd.fieldA (m := 1) rfl (by kernel_rfl)) ?_
        refine Z.l rfl rfl (by rfl) (Z.keepS hs) (Z.Yd.load rfl Try.isAgg3 (fun _ => Z.cellB (cs := x.cells.toArray) (by first | ((repeat (first | exact List.mem_cons_self | refine List.mem_cons_of_mem _ ?_ | refine List.mem_append_right _ ?_)); done) | fail) rfl)) ?_
        refine Z.le rfl trivial ?_
        refine Z.ZO.call rfl rfl (by rfl) rfl rfl Try.call11 rfl (an_start A x.t _ (hN _ _ hs (by first | ((repeat (first | exact List.mem_cons_self | refine List.mem_cons_of_mem _ ?_ | refine List.mem_append_right _ ?_)); done) | fail))) ?_
        rintro v5_3 w5_3 ⟨rfl, hy⟩
        replace hs := hs.call hy
        clear hy
        try simp only [List.cons_append, List.nil_append, List.append_nil] at hs
        refine Z.lb 1 rfl ?_
        refine Z.lnil ?_
        refine Z.only [1, 5, 6, 19, 20, 21] rfl ?_
        refine Z.nthen ?_
        refine Z.seq ?_
        refine Z.region ?_
        refine Z.lb 1 rfl ?_
        refine Z.l rfl rfl (by rfl) (Z.keepS hs) (Z.Yd.fieldA (m := 1) rfl (by kernel_rfl)) ?_
        refine Z.l rfl rfl (by rfl) (Z.keepS hs) (Z.Yd.load rfl Try.isAgg3 (fun _ => Z.cellB (cs := x.cells.toArray) (by first | ((repeat (first | exact List.mem_cons_self | refine List.mem_cons_of_mem _ ?_ | refine List.mem_append_right _ ?_)); done) | fail) rfl)) ?_
        refine Z.l rfl rfl (by rfl) (Z.keepS hs) (Z.Yd.fieldA (m := 2) rfl (by kernel_rfl)) ?_
        refine Z.l rfl rfl (by rfl) (Z.keepS hs) (Z.Yd.load rfl Try.isAgg3 (fun _ => Z.cellB (cs := x.cells.toArray) (by first | ((repeat (first | exact List.mem_cons_self | refine List.mem_cons_of_mem _ ?_ | refine List.mem_append_right _ ?_)); done) | fail) rfl)) ?_
        refine Z.le rfl trivial ?_
        refine Z.ZO.call rfl rfl (by rfl) rfl rfl Try.call12 rfl (an_send A x.t x.d _ (hN _ _ hs (by first | ((repeat (first | exact List.mem_cons_self | refine List.mem_cons_of_mem _ ?_ | refine List.mem_append_right _ ?_)); done) | fail))) ?_
        rintro v6_5 w6_5 ⟨rfl, hy⟩
        replace hs := hs.call hy
        clear hy
        try simp only [List.cons_append, List.nil_append, List.append_nil] at hs
        refine Z.lb 5 rfl ?_
        refine Z.lnil ?_
        refine Z.only [1, 5, 6, 7, 8, 19, 20, 21] rfl ?_
        refine Z.nthen ?_
        refine Z.seq ?_
        refine Z.region ?_
        refine Z.lb 1 rfl ?_
        refine Z.l rfl rfl (by rfl) (Z.keepS hs) (Z.Yd.fieldA (m := 1) rfl (by kernel_rfl)) ?_
        refine Z.l rfl rfl (by rfl) (Z.keepS hs) (Z.Yd.load rfl Try.isAgg3 (fun _ => Z.cellB (cs := x.cells.toArray) (by first | ((repeat (first | exact List.mem_cons_self | refine List.mem_cons_of_mem _ ?_ | refine List.mem_append_right _ ?_)); done) | fail) rfl)) ?_
        refine Z.l rfl rfl (by rfl) (Z.keepS hs) (Z.Yd.fieldA (m := 3) rfl (by kernel_rfl)) ?_
        refine Z.l rfl rfl (by rfl) (Z.keepS hs) (Z.Yd.loadA _ rfl Try.isAgg36 (fun _ => Z.cellsBo (cs := x.cells) [.int .i64 x.p, .int .i64 x.r, .int .i64 x.b] (by first | ((repeat (first | exact List.mem_cons_self | refine List.mem_cons_of_mem _ ?_ | refine List.mem_append_right _ ?_)); done) | fail) ⟨[_, _], rfl⟩) (by exact Try.sizeOf36)) ?_
        refine Z.le rfl trivial ?_
        refine Z.ZO.call rfl rfl (by rfl) rfl rfl Try.call13 rfl (an_answer A x.t x.p x.r x.b _ (hN _ _ hs (by first | ((repeat (first | exact List.mem_cons_self | refine List.mem_cons_of_mem _ ?_ | refine List.mem_append_right _ ?_)); done) | fail))) ?_
        rintro v7_5 w7_5 ⟨rfl, hy⟩
        replace hs := hs.call hy
        clear hy
        try simp only [List.cons_append, List.nil_append, List.append_nil] at hs
        refine Z.lb 5 rfl ?_
        refine Z.lnil ?_
        refine Z.only [1, 5, 6, 7, 8, 9, 10, 19, 20, 21] rfl ?_
        refine Z.nthen ?_
        refine Z.seq ?_
        refine Z.region ?_
        refine Z.lb 1 rfl ?_
        refine Z.le rfl trivial ?_
        refine Z.ZO.call rfl rfl (by rfl) rfl rfl Try.call15 rfl (an_message A _ (hN _ _ hs (by first | ((repeat (first | exact List.mem_cons_self | refine List.mem_cons_of_mem _ ?_ | refine List.mem_append_right _ ?_)); done) | fail))) ?_
        rintro v8_1 w8_1 ⟨rfl, hy⟩
        replace hs := hs.call hy
        clear hy
        try simp only [List.cons_append, List.nil_append, List.append_nil] at hs
        refine Z.lb 3 rfl ?_
        refine Z.le rfl trivial ?_
        refine Z.ZO.alloc rfl rfl (by rfl) Try.zeroValue40 rfl hs ?_
        clear hs; intro g11 w11 hs
        refine Z.le rfl trivial ?_
        first | refine Z.ZO.storeA rfl rfl hs rfl rfl (by kernel_rfl) (by first | (simp [Value.oneCell']; done) | (refine Z.all_one ?_; assumption)) (by first | exact SX.at0 | exact SX.at1 | exact SX.at2 | exact SX.at3 | exact SX.at4 | exact SX.at5 | exact Z.at6 | exact Z.at7 | exact Z.at8 | exact Z.at9 | exact Z.at10 | exact Z.at11 | exact Z.at12) (by rfl) ?_ | refine Z.ZO.storeP rfl rfl hs rfl rfl (by kernel_rfl) (by first | (simp [Value.oneCell']; done) | (refine Z.all_one ?_; assumption)) (by first | exact SX.at0 | exact SX.at1 | exact SX.at2 | exact SX.at3 | exact SX.at4 | exact SX.at5 | exact Z.at6 | exact Z.at7 | exact Z.at8 | exact Z.at9 | exact Z.at10 | exact Z.at11 | exact Z.at12) (by first | decide | (simp; done) | (simp; omega)) ?_ | refine Z.ZO.storePR rfl rfl hs rfl rfl (by kernel_rfl) (by first | (simp [Value.oneCell']; done) | (refine Z.all_one ?_; assumption)) (by first | exact SX.at0 | exact SX.at1 | exact SX.at2 | exact SX.at3 | exact SX.at4 | exact SX.at5 | exact Z.at6 | exact Z.at7 | exact Z.at8 | exact Z.at9 | exact Z.at10 | exact Z.at11 | exact Z.at12) (by first | decide | (simp; done) | (simp; omega)) ?_
        clear hs; intro ws hs
        simp only [Nat.zero_add, Nat.add_zero, Nat.reduceAdd, Int.reduceToNat, Nat.reduceMul, List.set_cons_zero, List.set_cons_succ, List.setIfInBounds_toArray] at hs
        try simp only [Z.putL, Nat.zero_add] at hs
        refine Z.lb 1 rfl ?_
        refine Z.lnil ?_
        refine Z.only [1, 5, 6, 7, 8, 9, 10, 11, 12, 19, 20, 21] rfl ?_
        refine Z.nthen ?_
        refine Z.seq ?_
        refine Z.region ?_
        refine Z.lb 1 rfl ?_
        refine Z.l rfl rfl (by rfl) (Z.keepS hs) (Z.Yd.fieldA (m := 1) rfl (by kernel_rfl)) ?_
        refine Z.l rfl rfl (by rfl) (Z.keepS hs) (Z.Yd.load rfl Try.isAgg3 (fun _ => Z.cellB (cs := x.cells.toArray) (by first | ((repeat (first | exact List.mem_cons_self | refine List.mem_cons_of_mem _ ?_ | refine List.mem_append_right _ ?_)); done) | fail) rfl)) ?_
        refine Z.l rfl rfl (by rfl) (Z.keepS hs) (Z.Yd.fieldA (m := 6) rfl (by kernel_rfl)) ?_
        refine Z.l rfl rfl (by rfl) (Z.keepS hs) (Z.Yd.loadA _ rfl Try.isAgg40 (fun _ => Z.cellsBo (cs := x.cells) [.int .i64 x.lc, .slice x.A x.l.length x.c] (by first | ((repeat (first | exact List.mem_cons_self | refine List.mem_cons_of_mem _ ?_ | refine List.mem_append_right _ ?_)); done) | fail) ⟨[], rfl⟩) (by exact Try.sizeOf40)) ?_
        refine Z.le rfl trivial ?_
        refine Z.ZO.call rfl rfl (by rfl) rfl rfl Try.call16 rfl (an_resolve A x.t x.lc x.A x.l.length x.c x.l _ (hN _ _ hs (by first | ((repeat (first | exact List.mem_cons_self | refine List.mem_cons_of_mem _ ?_ | refine List.mem_append_right _ ?_)); done) | fail)) ((hg.sx.st (hs.sub (List.nil_sublist _))).sx) rfl (by omega) hg.by8) ?_
        rintro v9_5 w9_5 ⟨rfl, hy⟩
        replace hs := hs.call hy
        clear hy
        try simp only [List.cons_append, List.nil_append, List.append_nil] at hs
        refine Z.lb 5 rfl ?_
        refine Z.lnil ?_
        refine Z.only [1, 5, 6, 7, 8, 9, 10, 11, 12, 13, 14, 19, 20, 21] rfl ?_
        refine Z.nthen ?_
        refine Z.seq ?_
        refine Z.region ?_
        refine Z.lb 1 rfl ?_
        refine Z.l rfl rfl (by rfl) (Z.keepS hs) (Z.Yd.fieldA (m := 1) rfl (by kernel_rfl)) ?_
        refine Z.l rfl rfl (by rfl) (Z.keepS hs) (Z.Yd.load rfl Try.isAgg3 (fun _ => Z.cellB (cs := x.cells.toArray) (by first | ((repeat (first | exact List.mem_cons_self | refine List.mem_cons_of_mem _ ?_ | refine List.mem_append_right _ ?_)); done) | fail) rfl)) ?_
        refine Z.le rfl trivial ?_
        refine Z.ZO.call rfl rfl (by rfl) rfl rfl Try.call24 rfl (an_tick A x.t _ (hN _ _ hs (by first | ((repeat (first | exact List.mem_cons_self | refine List.mem_cons_of_mem _ ?_ | refine List.mem_append_right _ ?_)); done) | fail))) ?_
        rintro v10_3 w10_3 ⟨rfl, hy⟩
        replace hs := hs.call hy
        clear hy
        try simp only [List.cons_append, List.nil_append, List.append_nil] at hs
        refine Z.lb 1 rfl ?_
        refine Z.lnil ?_
        refine Z.only [1, 5, 6, 7, 8, 9, 10, 11, 12, 13, 14, 15, 19, 20, 21] rfl ?_
        refine Z.nthen ?_
        refine Z.seq ?_
        refine Z.seq ?_
        refine Z.region ?_
        refine Z.lb 18 rfl ?_
        refine Z.yes (s := 82) (b := false) rfl ((by simp)) rfl ?_
        refine Z.l rfl rfl (by rfl) (Z.keepS hs) (by first | exact Z.Yd.loadA _ rfl Try.isAgg40 (fun _ => Z.cellsB (by first | ((repeat (first | exact List.mem_cons_self | refine List.mem_cons_of_mem _ ?_ | refine List.mem_append_right _ ?_)); done) | fail)) (by exact Try.sizeOf40) | fail "load 11.18") ?_
        refine Z.l rfl rfl (by rfl) (Z.keepS hs) (Z.Yd.buildL [(0, 1), (1, 1)] [.int .i64 0, .slice none 0 0] rfl rfl (by intro w; kernel_rfl)) ?_
        refine Z.yes (s := 82) (b := false) rfl rfl rfl ?_
        refine Z.le rfl (by exact ⟨rfl, trivial⟩) ?_
        refine Z.ZO.call rfl rfl (by rfl) rfl rfl Try.call26 rfl (acr_same 0 0 none none 0 0 0 0 [] [] _ sl_nil sl_nil rfl rfl (by simp) (by simp)) ?_
        rintro v11_20 w11_20 ⟨rfl, hy⟩
        replace hs := hs.call hy
        clear hy
        try simp only [List.cons_append, List.nil_append, List.append_nil] at hs
        refine Z.lb 1 rfl ?_
        refine Z.yes (s := 82) (b := false) rfl rfl rfl ?_
        refine Z.l rfl rfl (by rfl) (Z.keepS hs) (Z.Yd.pickF rfl rfl) ?_
        refine Z.lb 15 rfl ?_
        refine Z.lnil ?_
        refine Z.only [1, 5, 19, 20, 21, 102] rfl ?_
        refine Z.nthen ?_
        refine Z.cond rfl (fun h => absurd h (by simp)) (fun hc11 => ?_)
        refine Z.skip ?_
        refine Z.nthen ?_
        refine Z.seq ?_
        refine Z.region ?_
        refine Z.lb 1 rfl ?_
        refine Z.le rfl trivial ?_
        refine Z.ZO.call rfl rfl (by rfl) rfl rfl Try.call17 rfl (an_state A _ (hN _ _ hs (by first | ((repeat (first | exact List.mem_cons_self | refine List.mem_cons_of_mem _ ?_ | refine List.mem_append_right _ ?_)); done) | fail))) ?_
        rintro v13_1 w13_1 ⟨rfl, hy⟩
        replace hs := hs.call hy
        clear hy
        try simp only [List.cons_append, List.nil_append, List.append_nil] at hs
        refine Z.lb 2 rfl ?_
        refine Z.yes (s := 106) (b := false) rfl ((by simp)) rfl ?_
        refine Z.lb 1 rfl ?_
        refine Z.yes (s := 106) (b := false) rfl rfl rfl ?_
        refine Z.le rfl (by exact ⟨rfl, trivial⟩) ?_
        refine Z.ZO.call rfl rfl (by rfl) rfl rfl Try.call18 rfl (an_due A _ (hN _ _ hs (by first | ((repeat (first | exact List.mem_cons_self | refine List.mem_cons_of_mem _ ?_ | refine List.mem_append_right _ ?_)); done) | fail))) ?_
        rintro v13_5 w13_5 ⟨rfl, hy⟩
        replace hs := hs.call hy
        clear hy
        try simp only [List.cons_append, List.nil_append, List.append_nil] at hs
        refine Z.lb 1 rfl ?_
        refine Z.yes (s := 106) (b := false) rfl rfl rfl ?_
        refine Z.l rfl rfl (by rfl) (Z.keepS hs) (Z.Yd.pickF rfl rfl) ?_
        refine Z.lb 1 rfl ?_
        refine Z.yes (s := 111) (b := false) rfl ((by simp)) rfl ?_
        refine Z.lb 1 rfl ?_
        refine Z.yes (s := 111) (b := false) rfl rfl rfl ?_
        refine Z.le rfl (by exact ⟨rfl, trivial⟩) ?_
        refine Z.ZO.call rfl rfl (by rfl) rfl rfl Try.call23 rfl (an_attempts A _ (hN _ _ hs (by first | ((repeat (first | exact List.mem_cons_self | refine List.mem_cons_of_mem _ ?_ | refine List.mem_append_right _ ?_)); done) | fail))) ?_
        rintro v13_10 w13_10 ⟨rfl, hy⟩
        replace hs := hs.call hy
        clear hy
        try simp only [List.cons_append, List.nil_append, List.append_nil] at hs
        refine Z.lb 1 rfl ?_
        refine Z.yes (s := 111) (b := false) rfl rfl rfl ?_
        refine Z.l rfl rfl (by rfl) (Z.keepS hs) (Z.Yd.pickF rfl rfl) ?_
        refine Z.lb 1 rfl ?_
        refine Z.yes (s := 116) (b := false) rfl ((by simp)) rfl ?_
        refine Z.lb 1 rfl ?_
        refine Z.yes (s := 116) (b := false) rfl rfl rfl ?_
        refine Z.le rfl (by exact ⟨rfl, trivial⟩) ?_
        refine Z.ZO.call rfl rfl (by rfl) rfl rfl Try.call14 rfl (an_rnti A _ (hN _ _ hs (by first | ((repeat (first | exact List.mem_cons_self | refine List.mem_cons_of_mem _ ?_ | refine List.mem_append_right _ ?_)); done) | fail))) ?_
        rintro v13_15 w13_15 ⟨rfl, hy⟩
        replace hs := hs.call hy
        clear hy
        try simp only [List.cons_append, List.nil_append, List.append_nil] at hs
        refine Z.lb 1 rfl ?_
        refine Z.yes (s := 116) (b := false) rfl rfl rfl ?_
        refine Z.l rfl rfl (by rfl) (Z.keepS hs) (Z.Yd.pickF rfl rfl) ?_
        refine Z.lb 1 rfl ?_
        refine Z.yes (s := 121) (b := false) rfl ((by simp)) rfl ?_
        refine Z.lb 1 rfl ?_
        refine Z.yes (s := 121) (b := false) rfl rfl rfl ?_
        refine Z.le rfl (by exact ⟨rfl, trivial⟩) ?_
        refine Z.ZO.call rfl rfl (by rfl) rfl rfl Try.call25 rfl (an_copy A _ (hN _ _ hs (by first | ((repeat (first | exact List.mem_cons_self | refine List.mem_cons_of_mem _ ?_ | refine List.mem_append_right _ ?_)); done) | fail))) ?_
        rintro v13_20 w13_20 ⟨rfl, hy⟩
        replace hs := hs.call hy
        clear hy
        try simp only [List.cons_append, List.nil_append, List.append_nil] at hs
        refine Z.l rfl rfl (by rfl) (Z.keepS hs) (Z.Yd.ptrNnil rfl rfl Try.underlying25) ?_
        refine Z.yes (s := 121) (b := false) rfl rfl rfl ?_
        refine Z.l rfl rfl (by rfl) (Z.keepS hs) (Z.Yd.pickF rfl rfl) ?_
        refine Z.lnil ?_
        refine Z.only [1, 19, 20, 21, 125] rfl ?_
        refine Z.nthen ?_
        refine Z.cond rfl (fun h => absurd h (by simp)) (fun hc13 => ?_)
        refine Z.skip ?_
        refine Z.nblock ?_
        refine Z.nthen ?_
        refine Z.region ?_
        refine Z.l rfl rfl (by rfl) (Z.keepS hs) (Z.Yd.add rfl rfl (fun hG => Z.wi64 (by first | omega | (have hG' := Z.gh rfl hG; simp at hG'; omega)))) ?_
        refine Z.lb 1 rfl ?_
        refine Z.lnil ?_
        refine Z.only [1, 19, 20, 21] rfl ?_
        refine Z.nthen ?_
        exact Z.again (k + 1) (by refine ⟨?_, ?_, ?_, ?_, trivial⟩ <;> (first | rfl | (refine Z.lookv rfl ?_; simp; done) | (refine Z.lookv rfl ?_; simp; omega))) ⟨by omega, hs.sel [1, 2, 3] (by decide)⟩ (by omega)
        )
  · first
      | (exfalso; simp at hc3 <;> omega)
      | (
        (try simp at hc3)
        refine Z.exit ?_
        refine Z.xthen ?_
        refine Z.xthen ?_
        refine Z.xblock ?_
        refine Z.nthen ?_
        refine Z.seq ?_
        refine Z.region ?_
        refine Z.le rfl trivial ?_
        refine Z.ZO.call rfl rfl (by rfl) rfl rfl Try.call10 rfl (ac_known _) ?_
        rintro v16_0 w16_0 ⟨rfl, hy⟩
        replace hs := hs.call hy
        clear hy
        try simp only [List.cons_append, List.nil_append, List.append_nil] at hs
        refine Z.lb 1 rfl ?_
        refine Z.lnil ?_
        refine Z.only [2] rfl ?_
        refine Z.nthen ?_
        refine Z.ret ?_
        -- ret#0
        refine Z.out1 (by exact ⟨rfl, trivial⟩) ?_
        first | exact ⟨_, rfl, rfl, hs⟩ | exact ⟨_, rfl, rfl, hs.sub (List.nil_sublist _)⟩
        )
theorem accessNil_rd (cs0 : Array Value) (w : World) (z0 : Rw Try.prog w 57 (Value.agg cs0).cells.toList) :
    Calls Try.prog 8 #[.agg cs0] w fun e w' => e = .returned (.bool true) ∧ Below w.heap.size w w' := by
  obtain ⟨x, hr, hg⟩ := rw_act27 z0
  have e : cs0 = x.cells.toArray := by
    have : cs0.toList = x.cells := by simpa [Value.cells] using hr
    exact Array.toList_inj.1 (by simpa using this)
  rw [e]
  refine (accessNil_walk x w hg).mono ?_
  rintro e w' ⟨v, rfl, rfl, h⟩
  exact ⟨rfl, h.below⟩
end Go.Proofs.Ytjgfooakcljddaa
