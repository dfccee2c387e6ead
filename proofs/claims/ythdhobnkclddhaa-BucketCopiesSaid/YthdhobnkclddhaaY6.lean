/- Part 6 of the proofs that lead to the statement. -/
import Derived.Test.YthdhobnkclddhaaY5
/- Buckets: what only reads: Level, Now, Order, Copy, Same. -/
namespace Go.Proofs.Ythdhobnkclddhaa
open Go.RowKit
set_option linter.unusedSimpArgs false
set_option linter.unusedVariables false
--newlaws

/-- the program's object, for reading -/
def BkR (w : World) (g : Nat) (m : BkV) : Prop := ∃ A c B d, Cel w g [.slice A m.l.length c, .slice B m.l.length d, .int .i64 m.now] ∧ Sl w A (m.chs.flatMap chC) ∧ Sl w B (ints .i64 (natI (ordL m.l)))
theorem BkR.st {w W : World} {L : List SX.Ent} {g : Nat} {m : BkV} (h : BkR w g m) (hW : SX.St w [] W L) : BkR W g m := by
  obtain ⟨A, c, B, d, h1, h2, h3⟩ := h
  exact ⟨A, c, B, d, h1.st hW, h2.st hW, h3.st hW⟩
theorem bkE_form {w0 w : World} {M : List Nat} {L : List SX.Ent} {g : Nat} {sv so : Value} {m : BkV} (hs : SX.St w0 M w L) (h : ∀ e ∈ bkE g sv so m, e ∈ L) : ∃ A c B d, sv = .slice A m.l.length c ∧ so = .slice B m.l.length d ∧ Sl w A (m.chs.flatMap chC) ∧ Sl w B (ints .i64 (natI (ordL m.l))) := by
  have h2 := h _ (show _ ∈ bkE g sv so m from List.mem_cons_of_mem _ List.mem_cons_self)
  have h3 := h _ (show _ ∈ bkE g sv so m from List.mem_cons_of_mem _ (List.mem_cons_of_mem _ List.mem_cons_self))
  obtain ⟨j2, hj2⟩ := List.mem_iff_getElem?.1 h2
  obtain ⟨j3, hj3⟩ := List.mem_iff_getElem?.1 h3
  obtain ⟨A, c, e1, -, -, r1⟩ := SX.row_slv hs hj2
  obtain ⟨B, d, e2, -, -, r2⟩ := SX.row_slv hs hj3
  exact ⟨A, c, B, d, e1, e2, r1, r2⟩
theorem SX.St.bkR {w0 w : World} {M : List Nat} {L : List SX.Ent} {g : Nat} {sv so : Value} {m : BkV} (hs : SX.St w0 M w L) (h : ∀ e ∈ bkE g sv so m, e ∈ L) : BkR w g m := by
  obtain ⟨A, c, B, d, rfl, rfl, r1, r2⟩ := bkE_form hs h
  exact ⟨A, c, B, d, hs.celOf (T := 63) (cs := [_, _, _]) (h _ List.mem_cons_self), r1, r2⟩
def lvV (m : BkV) (id : Int) : Int × Bool := if 0 ≤ idxG (fun x : LgV => decide (x.id = id)) m.l then (elt m.b (idxG (fun x : LgV => decide (x.id = id)) m.l), true) else (0, false)
theorem lvV_some {m : BkV} {id : Int} {k : Nat} (h0 : ∀ x ∈ m.l.take k, decide (x.id = id) = false) (hk : k < m.l.length) (h1 : m.l[k]!.id = id) : lvV m id = (elt m.b (k : Int), true) := by
  unfold lvV
  rw [idxG_some h0 hk (by rw [← getElem!_pos m.l k hk]; simpa using h1), if_pos (by omega)]
theorem lvV_none {m : BkV} {id : Int} (h0 : ∀ x ∈ m.l, decide (x.id = id) = false) : lvV m id = (0, false) := by
  unfold lvV
  rw [idxG_none h0, if_neg (by omega)]
theorem take_none {m : BkV} {id : Int} {k : Nat} (h0 : ∀ x ∈ m.l.take k, decide (x.id = id) = false) (hk : k < m.l.length) (h1 : ¬ m.l[k]!.id = id) : ∀ x ∈ m.l.take (k + 1), decide (x.id = id) = false := by
  intro x hx
  rw [List.take_add_one, List.getElem?_eq_getElem hk] at hx
  rcases List.mem_append.1 hx with hx | hx
  · exact h0 x hx
  · obtain rfl : x = m.l[k] := by simpa using hx
    rw [getElem!_pos m.l k hk] at h1
    simpa using h1
theorem bk_level (g : Nat) (m : BkV) (id : Int) (w : World) (hr : BkR w g m) (hm : m.ok) : Calls Try.prog 17 #[.pointer (some ⟨g, 0, none⟩), .int .i64 id] w (SX.Ret fun v w' => v = .tuple #[.int .i64 (lvV m id).1, .bool (lvV m id).2] ∧ SX.St w [] w' []) := by
  obtain ⟨A, c, B, d, hc, hA, hB⟩ := hr
  have hpos := hm.pos
  have hs := SX.St.start w
  obtain ⟨bb, off, rfl, hb0, hx2⟩ := Z.Sl.some hA (by rw [flat_len ch_len, hm.chl]; omega)
  refine Z.enter Try.func17 rfl Try.ntmps17 rfl rfl ?_
  refine Z.seq ?_
  refine Z.region ?_
  refine Z.lb 2 rfl ?_
  refine Z.lnil ?_
  refine Z.only [0, 1] rfl ?_
  refine Z.nthen ?_
  refine Z.seq ?_
  refine Z.seq ?_
  refine Z.region ?_
  refine Z.lb 1 rfl ?_
  refine Z.le rfl trivial ?_
  refine Z.ZO.call rfl rfl (by rfl) rfl rfl Try.call35 rfl (bk_none g _ _ _ _ _ _ hc) ?_
  rintro v1_1 w1_1 ⟨rfl, hy⟩
  replace hs := hs.call hy
  clear hy
  try simp only [List.cons_append, List.nil_append, List.append_nil] at hs
  refine Z.lnil ?_
  refine Z.only [0, 1, 9] rfl ?_
  refine Z.nthen ?_
  refine Z.cond rfl (fun h => absurd h (by simp only [decide_eq_true_eq]; omega)) (fun hc1 => ?_)
  refine Z.skip ?_
  refine Z.nthen ?_
  refine Z.seq ?_
  refine Z.seq ?_
  refine Z.region ?_
  refine Z.lb 1 rfl ?_
  refine Z.l rfl rfl (by rfl) (Z.keepS hs) (Z.Yd.nilc rfl rfl) ?_
  refine Z.l rfl rfl (by rfl) (Z.keepS hs) (Z.Yd.fieldA (m := 0) rfl (by kernel_rfl)) ?_
  refine Z.l rfl rfl (by rfl) (Z.keepS hs) (Z.Yd.load rfl Try.isAgg61 (fun _ => Z.cellO hc.1 (by simp) (hc.2 0 _ rfl))) ?_
  refine Z.l rfl rfl (by rfl) (Z.keepS hs) (Z.Yd.lenS rfl Try.underlying61) ?_
  refine Z.lb 1 rfl ?_
  refine Z.lnil ?_
  refine Z.only [1, 13, 14, 15] rfl ?_
  refine Z.nthen ?_
  refine Z.block ?_
  refine Z.loopk (ι := Nat) [1, 13, 14] rfl (fun k => [(15, [], .int .i64 (k : Int))]) (fun k wr => (k ≤ m.l.length ∧ ∀ x ∈ m.l.take k, decide (x.id = id) = false) ∧ SX.St w [] wr []) (fun k => m.l.length - k) 0 (by refine ⟨?_, trivial⟩ <;> (first | rfl | (refine Z.lookv rfl ?_; simp; done) | (refine Z.lookv rfl ?_; simp; omega))) ⟨⟨by omega, by simp⟩, hs⟩ ?_
  clear hs
  rintro k w4 ⟨⟨hk, h0⟩, hs⟩
  refine Z.only [1, 13, 14, 15] rfl ?_
  refine Z.seq ?_
  refine Z.region ?_
  refine Z.lb 1 rfl ?_
  refine Z.lnil ?_
  refine Z.only [1, 13, 14, 15, 16] rfl ?_
  refine Z.nthen ?_
  refine Z.seq ?_
  refine Z.cond rfl (fun hc4 => ?_) (fun hc4 => ?_)
  · first
      | (exfalso; simp at hc4 <;> omega)
      | (
        (try simp at hc4)
        have hlt : k < m.l.length := by omega
        have hg := hm.chg hlt
        have hone := ch_one (m.l[k]!, elt m.b (k : Int))
        refine Z.skip ?_
        refine Z.nthen ?_
        refine Z.seq ?_
        refine Z.block ?_
        refine Z.seq ?_
        refine Z.region ?_
        refine Z.l rfl rfl (by rfl) (Z.keepS hs) (Z.Yd.elem rfl rfl Try.underlying61 Try.sizeOf72 (fun hG => ⟨(by first | omega | (have hG' := Z.gh rfl hG; simp at hG'; omega)), (by first | omega | (have hG' := Z.gh rfl hG; simp at hG'; omega))⟩)) ?_
        refine Z.l rfl rfl (by rfl) (Z.keepS hs) (Z.Yd.loadA _ rfl Try.isAgg72 (fun _ W hK j u hu => Z.cellXq (enc := chC) hx2.sx ch_len hg hu W hK) (by exact Try.sizeOf72)) ?_
        refine Z.le rfl trivial ?_
        refine Z.ZO.alloc rfl rfl (by rfl) Try.zeroValue72 rfl hs ?_
        clear hs; intro g7 w7 hs
        refine Z.le rfl trivial ?_
        first | refine Z.ZO.storeA rfl rfl hs rfl rfl (by kernel_rfl) (by first | (simp [Value.oneCell']; done) | (refine Z.all_one ?_; assumption)) (by first | exact SX.at0 | exact SX.at1 | exact SX.at2 | exact SX.at3 | exact SX.at4 | exact SX.at5 | exact Z.at6 | exact Z.at7 | exact Z.at8 | exact Z.at9 | exact Z.at10 | exact Z.at11 | exact Z.at12) (by rfl) ?_ | refine Z.ZO.storeP rfl rfl hs rfl rfl (by kernel_rfl) (by first | (simp [Value.oneCell']; done) | (refine Z.all_one ?_; assumption)) (by first | exact SX.at0 | exact SX.at1 | exact SX.at2 | exact SX.at3 | exact SX.at4 | exact SX.at5 | exact Z.at6 | exact Z.at7 | exact Z.at8 | exact Z.at9 | exact Z.at10 | exact Z.at11 | exact Z.at12) (by first | decide | (simp; done) | (simp; omega)) ?_ | refine Z.ZO.storePR rfl rfl hs rfl rfl (by kernel_rfl) (by first | (simp [Value.oneCell']; done) | (refine Z.all_one ?_; assumption)) (by first | exact SX.at0 | exact SX.at1 | exact SX.at2 | exact SX.at3 | exact SX.at4 | exact SX.at5 | exact Z.at6 | exact Z.at7 | exact Z.at8 | exact Z.at9 | exact Z.at10 | exact Z.at11 | exact Z.at12) (by first | decide | (simp; done) | (simp; omega)) ?_
        clear hs; intro ws hs
        simp only [Nat.zero_add, Nat.add_zero, Nat.reduceAdd, Int.reduceToNat, Nat.reduceMul, List.set_cons_zero, List.set_cons_succ, List.setIfInBounds_toArray] at hs
        try simp only [Z.putL, Nat.zero_add] at hs
        refine Z.lnil ?_
        refine Z.only [1, 7, 13, 14, 15] rfl ?_
        refine Z.nthen ?_
        refine Z.seq ?_
        refine Z.region ?_
        refine Z.l rfl rfl (by rfl) (Z.keepS hs) (Z.Yd.fieldA (m := 0) rfl (by kernel_rfl)) ?_
        refine Z.l rfl rfl (by rfl) (Z.keepS hs) (Z.Yd.fieldA (m := 0) rfl (by kernel_rfl)) ?_
        refine Z.l rfl rfl (by rfl) (Z.keepS hs) (by first | exact Z.Yd.load rfl Try.isAgg3 (fun _ => Z.cellB (by first | ((repeat (first | exact List.mem_cons_self | refine List.mem_cons_of_mem _ ?_ | refine List.mem_append_right _ ?_)); done) | fail) rfl) | exact Z.Yd.load rfl Try.isAgg3 (fun _ => Z.cellO (by assumption) (by simp) (by assumption)) | fail "load 6.2") ?_
        refine Z.lb 2 rfl ?_
        refine Z.lnil ?_
        refine Z.only [1, 7, 13, 14, 15, 23] rfl ?_
        refine Z.nthen ?_
        refine Z.cond rfl (fun hc6 => ?_) (fun hc6 => ?_)
        · first
            | (exfalso; simp at hc6 <;> omega)
            | (
              (try simp at hc6)
              have hid : m.l[k]!.id = id := by simpa using hc6
              refine Z.seq ?_
              refine Z.region ?_
              refine Z.l rfl rfl (by rfl) (Z.keepS hs) (Z.Yd.fieldA (m := 5) rfl (by kernel_rfl)) ?_
              refine Z.l rfl rfl (by rfl) (Z.keepS hs) (by first | exact Z.Yd.load rfl Try.isAgg3 (fun _ => Z.cellB (by first | ((repeat (first | exact List.mem_cons_self | refine List.mem_cons_of_mem _ ?_ | refine List.mem_append_right _ ?_)); done) | fail) rfl) | exact Z.Yd.load rfl Try.isAgg3 (fun _ => Z.cellO (by assumption) (by simp) (by assumption)) | fail "load 7.1") ?_
              refine Z.lb 2 rfl ?_
              refine Z.lnil ?_
              refine Z.only [4, 5] rfl ?_
              refine Z.nthen ?_
              refine Z.ret ?_
              repeat (first | refine Z.rthen ?_ | refine Z.rblock ?_ | refine Z.rscope ?_)
              -- ret#0
              refine Z.out2 (by exact ⟨rfl, rfl, trivial⟩) ?_
              first
              | exact ⟨_, rfl, by rw [lvV_some h0 hlt hid], hs.sub (List.nil_sublist _)⟩
              | exact ⟨_, rfl, by rw [lvV_none (by rw [List.take_of_length_le (by omega)] at h0; exact h0)], hs⟩
              )
        · first
            | (exfalso; simp at hc6 <;> omega)
            | (
              (try simp at hc6)
              have hid : ¬ m.l[k]!.id = id := by simpa using hc6
              refine Z.skip ?_
              refine Z.nblock ?_
              refine Z.nthen ?_
              refine Z.region ?_
              refine Z.l rfl rfl (by rfl) (Z.keepS hs) (Z.Yd.add rfl rfl (fun hG => Z.wi64 (by first | omega | (have hG' := Z.gh rfl hG; simp at hG'; omega)))) ?_
              refine Z.lb 1 rfl ?_
              refine Z.lnil ?_
              refine Z.only [1, 13, 14, 15] rfl ?_
              refine Z.nthen ?_
              exact Z.again (k + 1) (by refine ⟨?_, ?_, ?_, ?_, trivial⟩ <;> (first | rfl | (refine Z.lookv rfl ?_; simp; done) | (refine Z.lookv rfl ?_; simp; omega))) ⟨⟨by omega, take_none h0 hlt hid⟩, hs.sub (List.nil_sublist _)⟩ (by omega)
              )
        )
  · first
      | (exfalso; simp at hc4 <;> omega)
      | (
        (try simp at hc4)
        refine Z.exit ?_
        refine Z.xthen ?_
        refine Z.xthen ?_
        refine Z.xblock ?_
        refine Z.nthen ?_
        refine Z.seq ?_
        refine Z.region ?_
        refine Z.lb 2 rfl ?_
        refine Z.lnil ?_
        refine Z.only [4, 5] rfl ?_
        refine Z.nthen ?_
        refine Z.ret ?_
        -- ret#1
        refine Z.out2 (by exact ⟨rfl, rfl, trivial⟩) ?_
        first
        | exact ⟨_, rfl, by rw [lvV_some h0 hlt hid], hs.sub (List.nil_sublist _)⟩
        | exact ⟨_, rfl, by rw [lvV_none (by rw [List.take_of_length_le (by omega)] at h0; exact h0)], hs⟩
        )
theorem bk_now (g : Nat) (m : BkV) (w : World) (hr : BkR w g m) (hm : m.ok) : Calls Try.prog 25 #[.pointer (some ⟨g, 0, none⟩)] w (SX.Ret fun v w' => v = .int .i64 m.now ∧ SX.St w [] w' []) := by
  obtain ⟨A, c, B, d, hc, hA, hB⟩ := hr
  have hpos := hm.pos
  have hs := SX.St.start w
  refine Z.enter Try.func25 rfl Try.ntmps25 rfl rfl ?_
  refine Z.seq ?_
  refine Z.region ?_
  refine Z.lb 1 rfl ?_
  refine Z.lnil ?_
  refine Z.only [0] rfl ?_
  refine Z.nthen ?_
  refine Z.seq ?_
  refine Z.seq ?_
  refine Z.region ?_
  refine Z.lb 1 rfl ?_
  refine Z.le rfl trivial ?_
  refine Z.ZO.call rfl rfl (by rfl) rfl rfl Try.call35 rfl (bk_none g _ _ _ _ _ _ hc) ?_
  rintro v1_1 w1_1 ⟨rfl, hy⟩
  replace hs := hs.call hy
  clear hy
  try simp only [List.cons_append, List.nil_append, List.append_nil] at hs
  refine Z.lnil ?_
  refine Z.only [0, 4] rfl ?_
  refine Z.nthen ?_
  refine Z.cond rfl (fun h => absurd h (by simp only [decide_eq_true_eq]; omega)) (fun hc1 => ?_)
  refine Z.skip ?_
  refine Z.nthen ?_
  refine Z.seq ?_
  refine Z.region ?_
  refine Z.lb 1 rfl ?_
  refine Z.l rfl rfl (by rfl) (Z.keepS hs) (Z.Yd.nilc rfl rfl) ?_
  refine Z.l rfl rfl (by rfl) (Z.keepS hs) (Z.Yd.fieldA (m := 2) rfl (by kernel_rfl)) ?_
  refine Z.l rfl rfl (by rfl) (Z.keepS hs) (Z.Yd.load rfl Try.isAgg3 (fun _ => Z.cellO hc.1 (by simp) (hc.2 2 _ rfl))) ?_
  refine Z.lb 1 rfl ?_
  refine Z.lnil ?_
  refine Z.only [2] rfl ?_
  refine Z.nthen ?_
  refine Z.ret ?_
  -- ret#0
  refine Z.out1 (by exact ⟨rfl, trivial⟩) ?_
  first | exact ⟨_, rfl, rfl, hs⟩ | exact ⟨_, rfl, rfl, hs.sub (List.nil_sublist _)⟩
theorem bk_cloneI (A : Option Addr) (n c : Nat) (l : List Int) (w : World) (hx : Sl w A (ints .i64 l)) (hl : l.length = n) (hn : 1 ≤ n ∧ n ≤ 1000) :
    Calls Try.prog 46 #[.slice A n c] w (SX.Ret fun v w' => SX.St w [] w' [SX.Ent.row v 3 1 n (ints .i64 l)]) := by
  have hs := SX.St.start w
  obtain ⟨bb, off, rfl, hb0, hx2⟩ := Z.Sl.some hx (by rw [ints_length]; omega)
  refine Z.enter Try.func46 rfl Try.ntmps46 rfl rfl ?_
  refine Z.seq ?_
  refine Z.region ?_
  refine Z.lb 1 rfl ?_
  refine Z.lnil ?_
  refine Z.only [0] rfl ?_
  refine Z.nthen ?_
  refine Z.seq ?_
  refine Z.seq ?_
  refine Z.region ?_
  refine Z.lb 1 rfl ?_
  refine Z.l rfl rfl (by rfl) (Z.keepS hs) (Z.Yd.sliceNil rfl rfl Try.underlying28) ?_
  refine Z.lnil ?_
  refine Z.only [0, 4] rfl ?_
  refine Z.nthen ?_
  refine Z.cond rfl (fun h => absurd h (by simp)) (fun hc1 => ?_)
  refine Z.skip ?_
  refine Z.nthen ?_
  refine Z.seq ?_
  refine Z.region ?_
  refine Z.le rfl trivial ?_
  refine Z.ZO.empty rfl rfl (by rfl) Try.underlying28 Try.sizeOf3 hs ?_
  clear hs; intro g5 w5 hs
  refine Z.lb 1 rfl ?_
  refine Z.le rfl trivial ?_
  refine Z.ZO.appendG (i0 := Try.t3) (size := 1) (bytes := 8) rfl rfl (by rfl) hs Try.underlying28 (by kernel_rfl) rfl rfl rfl rfl (by decide) rfl rfl (by first | exact SX.at0 | exact SX.at1 | exact SX.at2 | exact SX.at3 | exact SX.at4 | exact SX.at5 | exact Z.at6 | exact Z.at7 | exact Z.at8 | exact Z.at9 | exact Z.at10 | exact Z.at11 | exact Z.at12) (hx.st (hs.sub (List.nil_sublist _))) (by first | rfl | assumption | (simp [ints_length]; done) | (simp [ints_length]; omega)) (by first | exact Z.ints_one | assumption | simp [Value.oneCell']) (by unfold maxLen; omega) (by omega) ?_
  clear hs; intro v7 w7 hs
  simp only [List.set_cons_zero, List.set_cons_succ] at hs
  refine Z.lb 1 rfl ?_
  refine Z.lnil ?_
  refine Z.only [2] rfl ?_
  refine Z.nthen ?_
  refine Z.ret ?_
  -- ret#0
  refine Z.out1 (by exact ⟨rfl, trivial⟩) ?_
  exact ⟨_, rfl, by simpa using hs⟩
theorem bk_cloneC (A : Option Addr) (n c : Nat) (l : List (LgV × Int)) (w : World) (hx : Sl w A (l.flatMap chC)) (hl : l.length = n) (hn : 1 ≤ n ∧ n ≤ 1000) :
    Calls Try.prog 45 #[.slice A n c] w (SX.Ret fun v w' => SX.St w [] w' [SX.Ent.row v 72 6 n (l.flatMap chC)]) := by
  have hs := SX.St.start w
  have hfl : (l.flatMap chC).length = n * 6 := by rw [flat_len ch_len, hl]
  have hfo := flat_one ch_one l
  obtain ⟨bb, off, rfl, hb0, hx2⟩ := Z.Sl.some hx (by omega)
  refine Z.enter Try.func45 rfl Try.ntmps45 rfl rfl ?_
  refine Z.seq ?_
  refine Z.region ?_
  refine Z.lb 1 rfl ?_
  refine Z.lnil ?_
  refine Z.only [0] rfl ?_
  refine Z.nthen ?_
  refine Z.seq ?_
  refine Z.seq ?_
  refine Z.region ?_
  refine Z.lb 1 rfl ?_
  refine Z.l rfl rfl (by rfl) (Z.keepS hs) (Z.Yd.sliceNil rfl rfl Try.underlying61) ?_
  refine Z.lnil ?_
  refine Z.only [0, 4] rfl ?_
  refine Z.nthen ?_
  refine Z.cond rfl (fun h => absurd h (by simp)) (fun hc1 => ?_)
  refine Z.skip ?_
  refine Z.nthen ?_
  refine Z.seq ?_
  refine Z.region ?_
  refine Z.le rfl trivial ?_
  refine Z.ZO.empty rfl rfl (by rfl) Try.underlying61 Try.sizeOf72 hs ?_
  clear hs; intro g5 w5 hs
  refine Z.lb 1 rfl ?_
  refine Z.le rfl trivial ?_
  refine Z.ZO.appendG (i0 := Try.t72) (size := 6) (bytes := 48) rfl rfl (by rfl) hs Try.underlying61 (by kernel_rfl) rfl rfl rfl rfl (by decide) rfl rfl (by first | exact SX.at0 | exact SX.at1 | exact SX.at2 | exact SX.at3 | exact SX.at4 | exact SX.at5 | exact Z.at6 | exact Z.at7 | exact Z.at8 | exact Z.at9 | exact Z.at10 | exact Z.at11 | exact Z.at12) (hx.st (hs.sub (List.nil_sublist _))) (by first | rfl | assumption | (simp [ints_length]; done) | (simp [ints_length]; omega)) (by first | exact Z.ints_one | assumption | simp [Value.oneCell']) (by unfold maxLen; omega) (by omega) ?_
  clear hs; intro v7 w7 hs
  simp only [List.set_cons_zero, List.set_cons_succ] at hs
  refine Z.lb 1 rfl ?_
  refine Z.lnil ?_
  refine Z.only [2] rfl ?_
  refine Z.nthen ?_
  refine Z.ret ?_
  -- ret#0
  refine Z.out1 (by exact ⟨rfl, trivial⟩) ?_
  exact ⟨_, rfl, by simpa using hs⟩
theorem bk_copy (g : Nat) (m : BkV) (w : World) (hr : BkR w g m) (hm : m.ok) : Calls Try.prog 22 #[.pointer (some ⟨g, 0, none⟩)] w (SX.Ret fun v w' => ∃ g2 sv so, v = .pointer (some ⟨g2, 0, none⟩) ∧ SX.St w [] w' (bkE g2 sv so m)) := by
  obtain ⟨A, c, B, d, hc, hA, hB⟩ := hr
  have hpos := hm.pos
  have hnl : (natI (ordL m.l)).length = m.l.length := by simp [natI, ordL_len hm.set]
  have hs := SX.St.start w
  refine Z.enter Try.func22 rfl Try.ntmps22 rfl rfl ?_
  refine Z.seq ?_
  refine Z.region ?_
  refine Z.lb 1 rfl ?_
  refine Z.lnil ?_
  refine Z.only [0] rfl ?_
  refine Z.nthen ?_
  refine Z.seq ?_
  refine Z.seq ?_
  refine Z.region ?_
  refine Z.lb 1 rfl ?_
  refine Z.le rfl trivial ?_
  refine Z.ZO.call rfl rfl (by rfl) rfl rfl Try.call35 rfl (bk_none g _ _ _ _ _ _ hc) ?_
  rintro v1_1 w1_1 ⟨rfl, hy⟩
  replace hs := hs.call hy
  clear hy
  try simp only [List.cons_append, List.nil_append, List.append_nil] at hs
  refine Z.lnil ?_
  refine Z.only [0, 4] rfl ?_
  refine Z.nthen ?_
  refine Z.cond rfl (fun h => absurd h (by simp only [decide_eq_true_eq]; omega)) (fun hc1 => ?_)
  refine Z.skip ?_
  refine Z.nthen ?_
  refine Z.seq ?_
  refine Z.drawL [] (fun _ => true) mixed hs ?_
  clear hs; intro wd3 hs
  refine Z.tb [0] (by kernel_rfl) rfl ⟨_, hs, by first | (simp; done) | exact fun e he => List.mem_append_right _ he⟩ rfl ?_
  refine Z.t 1 rfl rfl rfl (by rfl) (by kernel_rfl) ⟨_, hs, by first | (simp; done) | exact fun e he => List.mem_append_right _ he⟩ (Z.Yd.nilc rfl rfl) ?_
  refine Z.t 2 rfl rfl rfl (by rfl) (by kernel_rfl) ⟨_, hs, by first | (simp; done) | exact fun e he => List.mem_append_right _ he⟩ (Z.Yd.fieldA (m := 0) rfl (by kernel_rfl)) ?_
  refine Z.t 3 rfl rfl rfl (by rfl) (by kernel_rfl) ⟨_, hs, by first | (simp; done) | exact fun e he => List.mem_append_right _ he⟩ (Z.Yd.load rfl Try.isAgg61 (fun _ => Z.cellO hc.1 (by simp) (hc.2 0 _ rfl))) ?_
  refine Z.tb [5] (by kernel_rfl) rfl ⟨_, hs, by first | (simp; done) | exact fun e he => List.mem_append_right _ he⟩ rfl ?_
  refine Z.t 6 rfl rfl rfl (by rfl) (by kernel_rfl) ⟨_, hs, by first | (simp; done) | exact fun e he => List.mem_append_right _ he⟩ (Z.Yd.nilc rfl rfl) ?_
  refine Z.t 7 rfl rfl rfl (by rfl) (by kernel_rfl) ⟨_, hs, by first | (simp; done) | exact fun e he => List.mem_append_right _ he⟩ (Z.Yd.fieldA (m := 1) rfl (by kernel_rfl)) ?_
  refine Z.t 8 rfl rfl rfl (by rfl) (by kernel_rfl) ⟨_, hs, by first | (simp; done) | exact fun e he => List.mem_append_right _ he⟩ (Z.Yd.load rfl Try.isAgg28 (fun _ => Z.cellO hc.1 (by simp) (hc.2 1 _ rfl))) ?_
  refine Z.tb [10] (by kernel_rfl) rfl ⟨_, hs, by first | (simp; done) | exact fun e he => List.mem_append_right _ he⟩ rfl ?_
  refine Z.t 11 rfl rfl rfl (by rfl) (by kernel_rfl) ⟨_, hs, by first | (simp; done) | exact fun e he => List.mem_append_right _ he⟩ (Z.Yd.nilc rfl rfl) ?_
  refine Z.t 12 rfl rfl rfl (by rfl) (by kernel_rfl) ⟨_, hs, by first | (simp; done) | exact fun e he => List.mem_append_right _ he⟩ (Z.Yd.fieldA (m := 2) rfl (by kernel_rfl)) ?_
  refine Z.t 13 rfl rfl rfl (by rfl) (by kernel_rfl) ⟨_, hs, by first | (simp; done) | exact fun e he => List.mem_append_right _ he⟩ (Z.Yd.load rfl Try.isAgg3 (fun _ => Z.cellO hc.1 (by simp) (hc.2 2 _ rfl))) ?_
  refine Z.tn 4 rfl rfl (by kernel_rfl) rfl trivial ?_
  refine Z.ZO.call rfl rfl (by rfl) rfl rfl Try.call45 rfl (bk_cloneC A _ c m.chs _ (hA.st (hs.sub (List.nil_sublist _))) hm.chl ⟨by omega, by omega⟩) ?_
  rintro v3_4 w3_4 hy
  replace hs := hs.call hy
  clear hy
  try simp only [List.cons_append, List.nil_append, List.append_nil] at hs
  obtain ⟨Ac, cc, rfl, -, -, -⟩ := SX.row_slv hs (j := 0) rfl
  refine Z.tk (Dn := fun _ => true) (i := 4) (fun _ => ⟨_, hs, by first | (simp; done) | exact fun e he => List.mem_append_right _ he⟩) ?_
  refine Z.tn 9 rfl rfl (by kernel_rfl) rfl trivial ?_
  refine Z.ZO.call rfl rfl (by rfl) rfl rfl Try.call46 rfl (bk_cloneI B _ d (natI (ordL m.l)) _ (hB.st (hs.sub (List.nil_sublist _))) hnl ⟨by omega, by omega⟩) ?_
  rintro v3_9 w3_9 hy
  replace hs := hs.call hy
  clear hy
  try simp only [List.cons_append, List.nil_append, List.append_nil] at hs
  obtain ⟨Ad, cd, rfl, -, -, -⟩ := SX.row_slv hs (j := 0) rfl
  refine Z.tk (Dn := fun _ => true) (i := 9) (fun _ => ⟨_, hs, by first | (simp; done) | exact fun e he => List.mem_append_right _ he⟩) ?_
  refine Z.t 14 rfl rfl rfl (by rfl) (by kernel_rfl) ⟨_, hs, by first | (simp; done) | exact fun e he => List.mem_append_right _ he⟩ (Z.Yd.buildL [(0, 1), (1, 1), (2, 1)] [.slice none 0 0, .slice none 0 0, .int .i64 0] rfl rfl (by intro w; kernel_rfl)) ?_
  refine Z.tn 15 rfl rfl (by kernel_rfl) rfl trivial ?_
  refine Z.ZO.box rfl rfl (by rfl) rfl rfl hs ?_
  clear hs; intro g20 w20 hs
  refine Z.tk (Dn := fun _ => true) (i := 15) (fun _ => ⟨_, hs, by first | (simp; done) | exact fun e he => List.mem_append_right _ he⟩) ?_
  refine Z.tb [16] (by kernel_rfl) rfl ⟨_, hs, by first | (simp; done) | exact fun e he => List.mem_append_right _ he⟩ rfl ?_
  refine Z.td (by rfl) (by kernel_rfl) ?_
  refine Z.only [2] rfl ?_
  refine Z.nthen ?_
  refine Z.ret ?_
  -- ret#0
  refine Z.out1 (by exact ⟨rfl, trivial⟩) ?_
  exact ⟨_, rfl, _, _, _, rfl, hs.sel [0, 2, 1] (by decide)⟩
theorem bk_equal (A B : Option Addr) (n c k d : Nat) (xs ys : List (LgV × Int)) (w : World) (hA : Sl w A (xs.flatMap chC)) (hB : Sl w B (ys.flatMap chC)) (hl : xs.length = n) (hk : ys.length = k) (hn : n ≤ 1000) :
    Calls Try.prog 37 #[.slice A n c, .slice B k d] w (SX.Ret fun v w' => v = .bool (decide (xs = ys)) ∧ SX.St w [] w' []) := by
  have hs := SX.St.start w
  refine Z.enter Try.func37 rfl Try.ntmps37 rfl rfl ?_
  refine Z.seq ?_
  refine Z.region ?_
  refine Z.lb 1 rfl ?_
  refine Z.lnil ?_
  refine Z.only [0, 1] rfl ?_
  refine Z.nthen ?_
  refine Z.seq ?_
  refine Z.seq ?_
  refine Z.region ?_
  refine Z.lb 1 rfl ?_
  refine Z.l rfl rfl (by rfl) (Z.keepS hs) (Z.Yd.lenS rfl Try.underlying61) ?_
  refine Z.lb 1 rfl ?_
  refine Z.l rfl rfl (by rfl) (Z.keepS hs) (Z.Yd.lenS rfl Try.underlying61) ?_
  refine Z.lb 1 rfl ?_
  refine Z.lnil ?_
  refine Z.only [0, 1, 10] rfl ?_
  refine Z.nthen ?_
  refine Z.cond rfl (fun hc1 => ?_) (fun hc1 => ?_)
  · first
      | (exfalso; simp at hc1 <;> omega)
      | (
        (try simp at hc1)
        have hne : ¬ xs = ys := fun h => by subst h; omega
        refine Z.seq ?_
        refine Z.region ?_
        refine Z.lb 1 rfl ?_
        refine Z.lnil ?_
        refine Z.only [4] rfl ?_
        refine Z.nthen ?_
        refine Z.ret ?_
        repeat (first | refine Z.rthen ?_ | refine Z.rblock ?_ | refine Z.rscope ?_)
        -- ret#0
        refine Z.out1 (by exact ⟨rfl, trivial⟩) ?_
        first
        | exact ⟨_, rfl, by rw [decide_eq_false hne], hs⟩
        | (rw [List.take_of_length_le (by omega), List.take_of_length_le (by omega)] at ht
           exact ⟨_, rfl, by rw [decide_eq_true ht], hs⟩)
        )
  · first
      | (exfalso; simp at hc1 <;> omega)
      | (
        (try simp at hc1)
        have hnk : n = k := by omega
        refine Z.skip ?_
        refine Z.nthen ?_
        refine Z.seq ?_
        refine Z.seq ?_
        refine Z.region ?_
        refine Z.lb 1 rfl ?_
        refine Z.l rfl rfl (by rfl) (Z.keepS hs) (Z.Yd.lenS rfl Try.underlying61) ?_
        refine Z.lb 1 rfl ?_
        refine Z.lnil ?_
        refine Z.only [0, 1, 12, 13] rfl ?_
        refine Z.nthen ?_
        refine Z.block ?_
        refine Z.loopk (ι := Nat) [0, 1, 12] rfl (fun i => [(13, [], .int .i64 (i : Int))]) (fun i wr => (i ≤ n ∧ xs.take i = ys.take i) ∧ SX.St w [] wr []) (fun i => n - i) 0 (by refine ⟨?_, trivial⟩ <;> (first | rfl | (refine Z.lookv rfl ?_; simp; done) | (refine Z.lookv rfl ?_; simp; omega))) ⟨⟨by omega, rfl⟩, hs⟩ ?_
        clear hs
        rintro i w4 ⟨⟨hi, ht⟩, hs⟩
        refine Z.only [0, 1, 12, 13] rfl ?_
        refine Z.seq ?_
        refine Z.region ?_
        refine Z.lb 1 rfl ?_
        refine Z.lnil ?_
        refine Z.only [0, 1, 12, 13, 14] rfl ?_
        refine Z.nthen ?_
        refine Z.seq ?_
        refine Z.cond rfl (fun hc4 => ?_) (fun hc4 => ?_)
        · first
            | (exfalso; simp at hc4 <;> omega)
            | (
              (try simp at hc4)
              obtain ⟨⟨x, u⟩, hxi⟩ : ∃ q, xs[i]? = some q := ⟨_, List.getElem?_eq_getElem (by omega)⟩
              obtain ⟨⟨y, v⟩, hyi⟩ : ∃ r, ys[i]? = some r := ⟨_, List.getElem?_eq_getElem (by omega)⟩
              obtain ⟨b, off, rfl, hb1, hx2⟩ := Z.Sl.some hA (by rw [flat_len ch_len]; omega)
              obtain ⟨b', off', rfl, hb2, hy2⟩ := Z.Sl.some hB (by rw [flat_len ch_len]; omega)
              refine Z.skip ?_
              refine Z.nthen ?_
              refine Z.seq ?_
              refine Z.block ?_
              refine Z.seq ?_
              refine Z.region ?_
              refine Z.lb 2 rfl ?_
              refine Z.lnil ?_
              refine Z.only [0, 1, 5, 12, 13] rfl ?_
              refine Z.nthen ?_
              refine Z.seq ?_
              refine Z.drawK (fun _ => true) mixed hs ?_
              clear hs; intro wd6 hs
              refine Z.tb [0, 1] (by kernel_rfl) rfl ⟨_, hs, by first | (simp; done) | exact fun e he => List.mem_append_right _ he⟩ rfl ?_
              refine Z.t 2 rfl rfl rfl (by rfl) (by kernel_rfl) ⟨_, hs, by first | (simp; done) | exact fun e he => List.mem_append_right _ he⟩ (Z.Yd.elem rfl rfl Try.underlying61 Try.sizeOf72 (fun hG => ⟨(by first | omega | (have hG' := Z.gh rfl hG; simp at hG'; omega)), (by first | omega | (have hG' := Z.gh rfl hG; simp at hG'; omega))⟩)) ?_
              refine Z.t 3 rfl rfl rfl (by rfl) (by kernel_rfl) ⟨_, hs, by first | (simp; done) | exact fun e he => List.mem_append_right _ he⟩ (Z.Yd.loadA _ rfl Try.isAgg72 (fun _ W hK j u hu => Z.cellXq (enc := chC) hx2.sx ch_len hxi hu W hK) (by exact Try.sizeOf72)) ?_
              refine Z.tb [4, 5] (by kernel_rfl) rfl ⟨_, hs, by first | (simp; done) | exact fun e he => List.mem_append_right _ he⟩ rfl ?_
              refine Z.t 6 rfl rfl rfl (by rfl) (by kernel_rfl) ⟨_, hs, by first | (simp; done) | exact fun e he => List.mem_append_right _ he⟩ (Z.Yd.elem rfl rfl Try.underlying61 Try.sizeOf72 (fun hG => ⟨(by first | omega | (have hG' := Z.gh rfl hG; simp at hG'; omega)), (by first | omega | (have hG' := Z.gh rfl hG; simp at hG'; omega))⟩)) ?_
              refine Z.t 7 rfl rfl rfl (by rfl) (by kernel_rfl) ⟨_, hs, by first | (simp; done) | exact fun e he => List.mem_append_right _ he⟩ (Z.Yd.loadA _ rfl Try.isAgg72 (fun _ W hK j u hu => Z.cellXq (enc := chC) hy2.sx ch_len hyi hu W hK) (by exact Try.sizeOf72)) ?_
              refine Z.t 8 rfl rfl rfl (by rfl) (by kernel_rfl) ⟨_, hs, by first | (simp; done) | exact fun e he => List.mem_append_right _ he⟩ (Z.Yd.neA (.st (.fc 0 5 (.st (.fc 0 1 (.i) (.fc 1 1 (.i) (.fc 2 1 (.i) (.fc 3 1 (.i) (.fc 4 1 (.i) (.fn))))))) (.fc 5 1 (.i) (.fn)))) rfl rfl rfl rfl (by kernel_rfl) (by kernel_rfl) rfl) ?_
              refine Z.td (by rfl) (by kernel_rfl) ?_
              refine Z.only [0, 1, 12, 13, 24] rfl ?_
              refine Z.nthen ?_
              refine Z.cond rfl (fun hc6 => ?_) (fun hc6 => ?_)
              · first
                  | (exfalso; simp at hc6 <;> omega)
                  | (
                    (try simp at hc6)
                    have hne : ¬ xs = ys := fun h => by
                      rw [h, hyi] at hxi
                      have := Option.some.inj hxi
                      simp only [Prod.mk.injEq] at this
                      obtain ⟨rfl, rfl⟩ := this
                      simp at hc6
                    refine Z.seq ?_
                    refine Z.region ?_
                    refine Z.lb 1 rfl ?_
                    refine Z.lnil ?_
                    refine Z.only [4] rfl ?_
                    refine Z.nthen ?_
                    refine Z.ret ?_
                    repeat (first | refine Z.rthen ?_ | refine Z.rblock ?_ | refine Z.rscope ?_)
                    -- ret#1
                    refine Z.out1 (by exact ⟨rfl, trivial⟩) ?_
                    first
                    | exact ⟨_, rfl, by rw [decide_eq_false hne], hs⟩
                    | (rw [List.take_of_length_le (by omega), List.take_of_length_le (by omega)] at ht
                       exact ⟨_, rfl, by rw [decide_eq_true ht], hs⟩)
                    )
              · first
                  | (exfalso; simp at hc6 <;> omega)
                  | (
                    (try simp at hc6)
                    refine Z.skip ?_
                    refine Z.nblock ?_
                    refine Z.nthen ?_
                    refine Z.region ?_
                    refine Z.l rfl rfl (by rfl) (Z.keepS hs) (Z.Yd.add rfl rfl (fun hG => Z.wi64 (by first | omega | (have hG' := Z.gh rfl hG; simp at hG'; omega)))) ?_
                    refine Z.lb 1 rfl ?_
                    refine Z.lnil ?_
                    refine Z.only [0, 1, 12, 13] rfl ?_
                    refine Z.nthen ?_
                    refine Z.again (i + 1) (by refine ⟨?_, ?_, ?_, ?_, trivial⟩ <;> (first | rfl | (refine Z.lookv rfl ?_; simp; done) | (refine Z.lookv rfl ?_; simp; omega))) ⟨⟨by omega, ?_⟩, hs⟩ (by omega)
                    rw [List.take_add_one, List.take_add_one, hxi, hyi, ht]
                    congr 2
                    obtain ⟨⟩ := x
                    obtain ⟨⟩ := y
                    simp_all
                    )
              )
        · first
            | (exfalso; simp at hc4 <;> omega)
            | (
              (try simp at hc4)
              refine Z.exit ?_
              refine Z.xthen ?_
              refine Z.xthen ?_
              refine Z.xblock ?_
              refine Z.nthen ?_
              refine Z.seq ?_
              refine Z.region ?_
              refine Z.lb 1 rfl ?_
              refine Z.lnil ?_
              refine Z.only [4] rfl ?_
              refine Z.nthen ?_
              refine Z.ret ?_
              -- ret#2
              refine Z.out1 (by exact ⟨rfl, trivial⟩) ?_
              first
              | exact ⟨_, rfl, by rw [decide_eq_false hne], hs⟩
              | (rw [List.take_of_length_le (by omega), List.take_of_length_le (by omega)] at ht
                 exact ⟨_, rfl, by rw [decide_eq_true ht], hs⟩)
              )
        )
theorem chs_inj {m k : BkV} (hm : m.ok) (hk : k.ok) (h : m.chs = k.chs) : m.l = k.l ∧ m.b = k.b := by
  have h1 := congrArg List.unzip h
  unfold BkV.chs at h1
  rw [List.unzip_zip (by rw [hm.len]), List.unzip_zip (by rw [hk.len])] at h1
  exact ⟨congrArg Prod.fst h1, congrArg Prod.snd h1⟩
theorem sm_iff {m k : BkV} (hm : m.ok) (hk : k.ok) : m = k ↔ m.now = k.now ∧ m.chs = k.chs := by
  constructor
  · rintro rfl; exact ⟨rfl, rfl⟩
  · rintro ⟨h1, h2⟩
    obtain ⟨h3, h4⟩ := chs_inj hm hk h2
    cases m; cases k
    simp_all
theorem bk_same (g k : Nat) (m n : BkV) (w : World) (hr : BkR w g m) (hq : BkR w k n) (hm : m.ok) (hn : n.ok) : Calls Try.prog 16 #[.pointer (some ⟨g, 0, none⟩), .pointer (some ⟨k, 0, none⟩)] w (SX.Ret fun v w' => v = .bool (decide (m = n)) ∧ SX.St w [] w' []) := by
  obtain ⟨A, c, B, d, hc, hA, hB⟩ := hr
  obtain ⟨A', c', B', d', hc', hA', hB'⟩ := hq
  have hpos := hm.pos
  have hpos' := hn.pos
  have hs := SX.St.start w
  have e : ∀ x : Bool, x = decide (m = n) → ∀ w', SX.St w [] w' [] → ∃ v, Ending.returned (.bool x) = .returned v ∧ v = .bool (decide (m = n)) ∧ SX.St w [] w' [] := fun x hx w' hw => ⟨_, rfl, by rw [hx], hw⟩
  refine Z.enter Try.func16 rfl Try.ntmps16 rfl rfl ?_
  refine Z.seq ?_
  refine Z.region ?_
  refine Z.lb 1 rfl ?_
  refine Z.lnil ?_
  refine Z.only [0, 1] rfl ?_
  refine Z.nthen ?_
  refine Z.seq ?_
  refine Z.seq ?_
  refine Z.region ?_
  refine Z.lb 1 rfl ?_
  refine Z.le rfl trivial ?_
  refine Z.ZO.call rfl rfl (by rfl) rfl rfl Try.call35 rfl (bk_none g _ _ _ _ _ _ hc) ?_
  rintro v1_1 w1_1 ⟨rfl, hy⟩
  replace hs := hs.call hy
  clear hy
  try simp only [List.cons_append, List.nil_append, List.append_nil] at hs
  refine Z.lb 1 rfl ?_
  refine Z.yes (s := 7) (b := false) rfl ((by rw [decide_eq_false (by omega)])) rfl ?_
  refine Z.lb 1 rfl ?_
  refine Z.yes (s := 7) (b := false) rfl rfl rfl ?_
  refine Z.le rfl (by exact ⟨rfl, trivial⟩) ?_
  refine Z.ZO.call rfl rfl (by rfl) rfl rfl Try.call35 rfl (bk_none k _ _ _ _ _ _ (hc'.st hs)) ?_
  rintro v1_4 w1_4 ⟨rfl, hy⟩
  replace hs := hs.call hy
  clear hy
  try simp only [List.cons_append, List.nil_append, List.append_nil] at hs
  refine Z.l rfl rfl (by rfl) (Z.keepS hs) (Z.Yd.pickF rfl rfl) ?_
  refine Z.lnil ?_
  refine Z.only [0, 1, 10] rfl ?_
  refine Z.nthen ?_
  refine Z.cond rfl (fun h => absurd h (by simp only [decide_eq_true_eq]; omega)) (fun hc1 => ?_)
  refine Z.skip ?_
  refine Z.nthen ?_
  refine Z.seq ?_
  refine Z.drawK (fun _ => true) mixed hs ?_
  clear hs; intro wd3 hs
  refine Z.tb [0] (by kernel_rfl) rfl ⟨_, hs, by first | (simp; done) | exact fun e he => List.mem_append_right _ he⟩ rfl ?_
  refine Z.t 1 rfl rfl rfl (by rfl) (by kernel_rfl) ⟨_, hs, by first | (simp; done) | exact fun e he => List.mem_append_right _ he⟩ (Z.Yd.nilc rfl rfl) ?_
  refine Z.t 2 rfl rfl rfl (by rfl) (by kernel_rfl) ⟨_, hs, by first | (simp; done) | exact fun e he => List.mem_append_right _ he⟩ (Z.Yd.fieldA (m := 2) rfl (by kernel_rfl)) ?_
  refine Z.t 3 rfl rfl rfl (by rfl) (by kernel_rfl) ⟨_, hs, by first | (simp; done) | exact fun e he => List.mem_append_right _ he⟩ (Z.Yd.load rfl Try.isAgg3 (fun _ => Z.cellO hc.1 (by simp) (hc.2 2 _ rfl))) ?_
  refine Z.tb [4] (by kernel_rfl) rfl ⟨_, hs, by first | (simp; done) | exact fun e he => List.mem_append_right _ he⟩ rfl ?_
  refine Z.t 5 rfl rfl rfl (by rfl) (by kernel_rfl) ⟨_, hs, by first | (simp; done) | exact fun e he => List.mem_append_right _ he⟩ (Z.Yd.nilc rfl rfl) ?_
  refine Z.t 6 rfl rfl rfl (by rfl) (by kernel_rfl) ⟨_, hs, by first | (simp; done) | exact fun e he => List.mem_append_right _ he⟩ (Z.Yd.fieldA (m := 2) rfl (by kernel_rfl)) ?_
  refine Z.t 7 rfl rfl rfl (by rfl) (by kernel_rfl) ⟨_, hs, by first | (simp; done) | exact fun e he => List.mem_append_right _ he⟩ (Z.Yd.load rfl Try.isAgg3 (fun _ => Z.cellO hc'.1 (by simp) (hc'.2 2 _ rfl))) ?_
  refine Z.tb [8, 9] (by kernel_rfl) rfl ⟨_, hs, by first | (simp; done) | exact fun e he => List.mem_append_right _ he⟩ rfl ?_
  refine Z.split (s := 26) rfl (fun hsp26 => ?_) (fun hsp26 => ?_)
  · first
      | (exfalso; simp at hsp26 <;> omega)
      | (
        refine Z.yes (s := 26) (b := true) rfl hsp26 rfl ?_
        (try simp at hsp26)
        refine Z.tb [10] (by kernel_rfl) rfl ⟨_, hs, by first | (simp; done) | exact fun e he => List.mem_append_right _ he⟩ rfl ?_
        refine Z.t 11 rfl rfl rfl (by rfl) (by kernel_rfl) ⟨_, hs, by first | (simp; done) | exact fun e he => List.mem_append_right _ he⟩ (Z.Yd.nilc rfl rfl) ?_
        refine Z.t 12 rfl rfl rfl (by rfl) (by kernel_rfl) ⟨_, hs, by first | (simp; done) | exact fun e he => List.mem_append_right _ he⟩ (Z.Yd.fieldA (m := 0) rfl (by kernel_rfl)) ?_
        refine Z.t 13 rfl rfl rfl (by rfl) (by kernel_rfl) ⟨_, hs, by first | (simp; done) | exact fun e he => List.mem_append_right _ he⟩ (Z.Yd.load rfl Try.isAgg61 (fun _ => Z.cellO hc.1 (by simp) (hc.2 0 _ rfl))) ?_
        refine Z.tb [14] (by kernel_rfl) rfl ⟨_, hs, by first | (simp; done) | exact fun e he => List.mem_append_right _ he⟩ rfl ?_
        refine Z.t 15 rfl rfl rfl (by rfl) (by kernel_rfl) ⟨_, hs, by first | (simp; done) | exact fun e he => List.mem_append_right _ he⟩ (Z.Yd.nilc rfl rfl) ?_
        refine Z.t 16 rfl rfl rfl (by rfl) (by kernel_rfl) ⟨_, hs, by first | (simp; done) | exact fun e he => List.mem_append_right _ he⟩ (Z.Yd.fieldA (m := 0) rfl (by kernel_rfl)) ?_
        refine Z.t 17 rfl rfl rfl (by rfl) (by kernel_rfl) ⟨_, hs, by first | (simp; done) | exact fun e he => List.mem_append_right _ he⟩ (Z.Yd.load rfl Try.isAgg61 (fun _ => Z.cellO hc'.1 (by simp) (hc'.2 0 _ rfl))) ?_
        refine Z.yes (s := 26) (b := true) rfl rfl rfl ?_
        refine Z.tn 18 rfl rfl (by kernel_rfl) rfl (by exact ⟨rfl, trivial⟩) ?_
        refine Z.ZO.call rfl rfl (by rfl) rfl rfl Try.call37 rfl (bk_equal A A' _ c _ c' m.chs n.chs _ (hA.st hs) (hA'.st hs) hm.chl hn.chl (by omega)) ?_
        rintro v3_18 w3_18 ⟨rfl, hy⟩
        replace hs := hs.call hy
        clear hy
        try simp only [List.cons_append, List.nil_append, List.append_nil] at hs
        refine Z.tk (Dn := fun _ => true) (i := 18) (fun _ => ⟨_, hs, by first | (simp; done) | exact fun e he => List.mem_append_right _ he⟩) ?_
        refine Z.t 19 rfl rfl rfl (by rfl) (by kernel_rfl) ⟨_, hs, by first | (simp; done) | exact fun e he => List.mem_append_right _ he⟩ (Z.Yd.pickT rfl rfl) ?_
        refine Z.tb [20] (by kernel_rfl) rfl ⟨_, hs, by first | (simp; done) | exact fun e he => List.mem_append_right _ he⟩ rfl ?_
        refine Z.td (by rfl) (by kernel_rfl) ?_
        refine Z.only [4] rfl ?_
        refine Z.nthen ?_
        refine Z.ret ?_
        -- ret#0
        refine Z.out1 (by exact ⟨rfl, trivial⟩) ?_
        refine e _ ?_ _ hs
        rw [Bool.eq_iff_iff]
        simp only [decide_eq_true_eq, sm_iff hm hn]
        simp_all
        )
  · first
      | (exfalso; simp at hsp26 <;> omega)
      | (
        refine Z.yes (s := 26) (b := false) rfl hsp26 rfl ?_
        (try simp at hsp26)
        refine Z.t 10 rfl rfl rfl (by rfl) (by kernel_rfl) ⟨_, hs, by first | (simp; done) | exact fun e he => List.mem_append_right _ he⟩ (Z.Yd.off (v := undef) 26 true rfl (by first | (simp; done) | (simp_all; done)) (by intro c h; cases h)) ?_
        refine Z.t 11 rfl rfl rfl (by rfl) (by kernel_rfl) ⟨_, hs, by first | (simp; done) | exact fun e he => List.mem_append_right _ he⟩ (Z.Yd.off (v := undef) 26 true rfl (by first | (simp; done) | (simp_all; done)) (by intro c h; cases h)) ?_
        refine Z.t 12 rfl rfl rfl (by rfl) (by kernel_rfl) ⟨_, hs, by first | (simp; done) | exact fun e he => List.mem_append_right _ he⟩ (Z.Yd.off (v := undef) 26 true rfl (by first | (simp; done) | (simp_all; done)) (by intro c h; cases h)) ?_
        refine Z.t 13 rfl rfl rfl (by rfl) (by kernel_rfl) ⟨_, hs, by first | (simp; done) | exact fun e he => List.mem_append_right _ he⟩ (Z.Yd.off (v := undef) 26 true rfl (by first | (simp; done) | (simp_all; done)) (by intro c h; cases h)) ?_
        refine Z.t 14 rfl rfl rfl (by rfl) (by kernel_rfl) ⟨_, hs, by first | (simp; done) | exact fun e he => List.mem_append_right _ he⟩ (Z.Yd.off (v := undef) 26 true rfl (by first | (simp; done) | (simp_all; done)) (by intro c h; cases h)) ?_
        refine Z.t 15 rfl rfl rfl (by rfl) (by kernel_rfl) ⟨_, hs, by first | (simp; done) | exact fun e he => List.mem_append_right _ he⟩ (Z.Yd.off (v := undef) 26 true rfl (by first | (simp; done) | (simp_all; done)) (by intro c h; cases h)) ?_
        refine Z.t 16 rfl rfl rfl (by rfl) (by kernel_rfl) ⟨_, hs, by first | (simp; done) | exact fun e he => List.mem_append_right _ he⟩ (Z.Yd.off (v := undef) 26 true rfl (by first | (simp; done) | (simp_all; done)) (by intro c h; cases h)) ?_
        refine Z.t 17 rfl rfl rfl (by rfl) (by kernel_rfl) ⟨_, hs, by first | (simp; done) | exact fun e he => List.mem_append_right _ he⟩ (Z.Yd.off (v := undef) 26 true rfl (by first | (simp; done) | (simp_all; done)) (by intro c h; cases h)) ?_
        refine Z.yes (s := 26) (b := false) rfl rfl rfl ?_
        refine Z.tnS 26 true 18 rfl rfl (by kernel_rfl) rfl rfl (by simp) rfl (by rfl) (fun _ => ⟨_, hs, by first | (simp; done) | exact fun e he => List.mem_append_right _ he⟩) ?_
        refine Z.t 19 rfl rfl rfl (by rfl) (by kernel_rfl) ⟨_, hs, by first | (simp; done) | exact fun e he => List.mem_append_right _ he⟩ (Z.Yd.pickF rfl rfl) ?_
        refine Z.tb [20] (by kernel_rfl) rfl ⟨_, hs, by first | (simp; done) | exact fun e he => List.mem_append_right _ he⟩ rfl ?_
        refine Z.td (by rfl) (by kernel_rfl) ?_
        refine Z.only [4] rfl ?_
        refine Z.nthen ?_
        refine Z.ret ?_
        -- ret#1
        refine Z.out1 (by exact ⟨rfl, trivial⟩) ?_
        refine e _ ?_ _ hs
        rw [Bool.eq_iff_iff]
        simp only [decide_eq_true_eq, sm_iff hm hn]
        simp_all
        )
end Go.Proofs.Ythdhobnkclddhaa

/- Buckets: the document's Valid, New, Order. -/
namespace Go.Proofs.Ythdhobnkclddhaa
open Go.RowKit
set_option linter.unusedSimpArgs false
set_option linter.unusedVariables false
--newlaws

theorem ids_take {l : List LgV} {i : Nat} (hi : i < l.length) (h : ids (l.take i)) : ids (l.take (i + 1)) ↔ ∀ k : Nat, k < i → ¬ l[k]!.id = l[i]!.id := by
  rw [any_prefix hi h, List.any_eq_false]
  constructor
  · intro h1 k hk he
    have hkl : k < l.length := by omega
    have := h1 l[k] (List.mem_take_iff_getElem.2 ⟨k, by omega, rfl⟩)
    rw [getElem!_pos l k hkl, getElem!_pos l i hi] at he
    simp [he] at this
  · intro h1 x hx
    obtain ⟨k, hk, rfl⟩ := List.mem_take_iff_getElem.1 hx
    have hki : k < i := by omega
    have hkl : k < l.length := by omega
    have := h1 k hki
    rw [getElem!_pos l k hkl, getElem!_pos l i hi] at this
    simpa using this
set_option maxHeartbeats 1000000 in
set_option maxRecDepth 100000 in
theorem rv_valid (A : Option Addr) (n c : Nat) (l : List LgV) (w : World) (hx : Sl w A (l.flatMap LgV.cells)) (hl : l.length = n) :
    Calls Try.prog 13 #[.slice A n c] w (SX.Ret fun v w' => v = .bool (decide (okSet l)) ∧ SX.St w [] w' []) := by
  have hs := SX.St.start w
  refine Z.enter Try.func13 rfl Try.ntmps13 rfl rfl ?_
  refine Z.seq ?_
  refine Z.region ?_
  refine Z.lb 1 rfl ?_
  refine Z.lnil ?_
  refine Z.only [0] rfl ?_
  refine Z.nthen ?_
  refine Z.seq ?_
  refine Z.seq ?_
  refine Z.region ?_
  refine Z.lb 1 rfl ?_
  refine Z.l rfl rfl (by rfl) (Z.keepS hs) (Z.Yd.lenS rfl Try.underlying22) ?_
  refine Z.lb 2 rfl ?_
  refine Z.split (s := 9) rfl (fun hsp9 => ?_) (fun hsp9 => ?_)
  · first
      | (exfalso; simp at hsp9 <;> omega)
      | (
        refine Z.yes (s := 9) (b := true) rfl hsp9 rfl ?_
        (try simp at hsp9)
        refine Z.ls rfl rfl rfl (by rfl) ?_
        refine Z.ls rfl rfl rfl (by rfl) ?_
        refine Z.ls rfl rfl rfl (by rfl) ?_
        refine Z.l rfl rfl (by rfl) (Z.keepS hs) (Z.Yd.pickT rfl rfl) ?_
        refine Z.lnil ?_
        refine Z.only [0, 13] rfl ?_
        refine Z.nthen ?_
        refine Z.cond rfl (fun hc1 => ?_) (fun hc1 => ?_)
        · first
            | (exfalso; simp at hc1 <;> omega)
            | (
              (try simp at hc1)
              have hno : ¬ okSet l := by rintro ⟨h1, -⟩; omega
              refine Z.seq ?_
              refine Z.region ?_
              refine Z.lb 1 rfl ?_
              refine Z.lnil ?_
              refine Z.only [2] rfl ?_
              refine Z.nthen ?_
              refine Z.ret ?_
              repeat (first | refine Z.rthen ?_ | refine Z.rblock ?_ | refine Z.rscope ?_)
              -- ret#0
              refine Z.out1 (by exact ⟨rfl, trivial⟩) ?_
              first
              | exact ⟨_, rfl, by rw [decide_eq_false hno], hs.sub (List.nil_sublist _)⟩
              | (rw [List.take_of_length_le (by omega)] at h1 h2
                 exact ⟨_, rfl, by rw [decide_eq_true (show okSet l from ⟨by omega, h1, h2⟩)], hs⟩)
              )
        · first
            | (exfalso; simp at hc1 <;> omega)
            | (
              (try simp at hc1)
              obtain ⟨bb, off, rfl, hb0, hx2⟩ := Z.Sl.some hx (by rw [flat_len lg_len]; omega)
              refine Z.skip ?_
              refine Z.nthen ?_
              refine Z.seq ?_
              refine Z.seq ?_
              refine Z.region ?_
              refine Z.lb 1 rfl ?_
              refine Z.lnil ?_
              refine Z.only [0, 3] rfl ?_
              refine Z.nthen ?_
              refine Z.block ?_
              refine Z.loopk (ι := Nat) [0] rfl (fun i => [(3, [], .int .i64 (i : Int))]) (fun i wr => (i ≤ n ∧ (∀ x ∈ l.take i, okLg x) ∧ ids (l.take i)) ∧ SX.St w [] wr []) (fun i => n - i) 0 (by refine ⟨?_, trivial⟩ <;> (first | rfl | (refine Z.lookv rfl ?_; simp; done) | (refine Z.lookv rfl ?_; simp; omega))) ⟨⟨by omega, by simp, by simp [ids]⟩, hs⟩ ?_
              clear hs
              rintro i w4 ⟨⟨hi, h1, h2⟩, hs⟩
              refine Z.only [0, 3] rfl ?_
              refine Z.seq ?_
              refine Z.seq ?_
              refine Z.region ?_
              refine Z.lb 2 rfl ?_
              refine Z.l rfl rfl (by rfl) (Z.keepS hs) (Z.Yd.lenS rfl Try.underlying22) ?_
              refine Z.lb 1 rfl ?_
              refine Z.lnil ?_
              refine Z.only [0, 3, 17] rfl ?_
              refine Z.nthen ?_
              refine Z.cond rfl (fun hc4 => ?_) (fun hc4 => ?_)
              · first
                  | (exfalso; simp at hc4 <;> omega)
                  | (
                    (try simp at hc4)
                    have hlt : i < l.length := by omega
                    have hel : l[i]? = some l[i]! := by rw [getElem!_pos l i hlt]; exact List.getElem?_eq_getElem hlt
                    have hid := ids_take hlt h2
                    have hmm : l[i]! ∈ l := List.mem_of_getElem? hel
                    have htk : l.take (i + 1) = l.take i ++ [l[i]!] := by rw [List.take_add_one, hel]; rfl
                    generalize l[i]! = xi at hel hid hmm htk
                    have hone := lg_one xi
                    refine Z.skip ?_
                    refine Z.nthen ?_
                    refine Z.seq ?_
                    refine Z.block ?_
                    refine Z.seq ?_
                    refine Z.region ?_
                    refine Z.lb 2 rfl ?_
                    refine Z.l rfl rfl (by rfl) (Z.keepS hs) (Z.Yd.elem rfl rfl Try.underlying22 Try.sizeOf38 (fun hG => ⟨(by first | omega | (have hG' := Z.gh rfl hG; simp at hG'; omega)), (by first | omega | (have hG' := Z.gh rfl hG; simp at hG'; omega))⟩)) ?_
                    refine Z.l rfl rfl (by rfl) (Z.keepS hs) (Z.Yd.loadA _ rfl Try.isAgg38 (fun _ W hK j u hu => Z.cellXq (enc := LgV.cells) hx2.sx lg_len hel hu W hK) (by exact Try.sizeOf38)) ?_
                    refine Z.le rfl trivial ?_
                    refine Z.ZO.alloc rfl rfl (by rfl) Try.zeroValue38 rfl hs ?_
                    clear hs; intro g4 w4 hs
                    refine Z.le rfl trivial ?_
                    first | refine Z.ZO.storeA rfl rfl hs rfl rfl (by kernel_rfl) (by first | (simp [Value.oneCell']; done) | (refine Z.all_one ?_; assumption)) (by first | exact SX.at0 | exact SX.at1 | exact SX.at2 | exact SX.at3 | exact SX.at4 | exact SX.at5 | exact Z.at6 | exact Z.at7 | exact Z.at8 | exact Z.at9 | exact Z.at10 | exact Z.at11 | exact Z.at12) (by rfl) ?_ | refine Z.ZO.storeP rfl rfl hs rfl rfl (by kernel_rfl) (by first | (simp [Value.oneCell']; done) | (refine Z.all_one ?_; assumption)) (by first | exact SX.at0 | exact SX.at1 | exact SX.at2 | exact SX.at3 | exact SX.at4 | exact SX.at5 | exact Z.at6 | exact Z.at7 | exact Z.at8 | exact Z.at9 | exact Z.at10 | exact Z.at11 | exact Z.at12) (by first | decide | (simp; done) | (simp; omega)) ?_ | refine Z.ZO.storePR rfl rfl hs rfl rfl (by kernel_rfl) (by first | (simp [Value.oneCell']; done) | (refine Z.all_one ?_; assumption)) (by first | exact SX.at0 | exact SX.at1 | exact SX.at2 | exact SX.at3 | exact SX.at4 | exact SX.at5 | exact Z.at6 | exact Z.at7 | exact Z.at8 | exact Z.at9 | exact Z.at10 | exact Z.at11 | exact Z.at12) (by first | decide | (simp; done) | (simp; omega)) ?_
                    clear hs; intro ws hs
                    simp only [Nat.zero_add, Nat.add_zero, Nat.reduceAdd, Int.reduceToNat, Nat.reduceMul, List.set_cons_zero, List.set_cons_succ, List.setIfInBounds_toArray] at hs
                    try simp only [Z.putL, Nat.zero_add] at hs
                    refine Z.lnil ?_
                    refine Z.only [0, 3, 4] rfl ?_
                    refine Z.nthen ?_
                    refine Z.seq ?_
                    refine Z.seq ?_
                    refine Z.cutt (ι := Unit) [0, 3, 4] rfl (fun _ => [(71, [], .bool (!decide (okLg xi)))]) (fun _ wr => SX.St w [] wr [SX.Ent.blk g4 38 xi.cells.toArray]) ?_ ?_
                    · skip
                      refine Z.region ?_
                      refine Z.l rfl rfl (by rfl) (Z.keepS hs) (Z.Yd.fieldA (m := 0) rfl (by kernel_rfl)) ?_
                      refine Z.l rfl rfl (by rfl) (Z.keepS hs) (by first | exact Z.Yd.load rfl Try.isAgg3 (fun _ => Z.cellB (by first | ((repeat (first | exact List.mem_cons_self | refine List.mem_cons_of_mem _ ?_ | refine List.mem_append_right _ ?_)); done) | fail) rfl) | exact Z.Yd.load rfl Try.isAgg3 (fun _ => Z.cellO (by assumption) (by simp) (by assumption)) | fail "load 7.1") ?_
                      refine Z.lb 2 rfl ?_
                      refine Z.l rfl rfl (by rfl) (Z.keepS hs) (Z.Yd.fieldA (m := 0) rfl (by kernel_rfl)) ?_
                      refine Z.l rfl rfl (by rfl) (Z.keepS hs) (by first | exact Z.Yd.load rfl Try.isAgg3 (fun _ => Z.cellB (by first | ((repeat (first | exact List.mem_cons_self | refine List.mem_cons_of_mem _ ?_ | refine List.mem_append_right _ ?_)); done) | fail) rfl) | exact Z.Yd.load rfl Try.isAgg3 (fun _ => Z.cellO (by assumption) (by simp) (by assumption)) | fail "load 7.5") ?_
                      refine Z.lb 3 rfl ?_
                      refine Z.l rfl rfl (by rfl) (Z.keepS hs) (Z.Yd.fieldA (m := 1) rfl (by kernel_rfl)) ?_
                      refine Z.l rfl rfl (by rfl) (Z.keepS hs) (by first | exact Z.Yd.load rfl Try.isAgg3 (fun _ => Z.cellB (by first | ((repeat (first | exact List.mem_cons_self | refine List.mem_cons_of_mem _ ?_ | refine List.mem_append_right _ ?_)); done) | fail) rfl) | exact Z.Yd.load rfl Try.isAgg3 (fun _ => Z.cellO (by assumption) (by simp) (by assumption)) | fail "load 7.10") ?_
                      refine Z.lb 3 rfl ?_
                      refine Z.l rfl rfl (by rfl) (Z.keepS hs) (Z.Yd.fieldA (m := 1) rfl (by kernel_rfl)) ?_
                      refine Z.l rfl rfl (by rfl) (Z.keepS hs) (by first | exact Z.Yd.load rfl Try.isAgg3 (fun _ => Z.cellB (by first | ((repeat (first | exact List.mem_cons_self | refine List.mem_cons_of_mem _ ?_ | refine List.mem_append_right _ ?_)); done) | fail) rfl) | exact Z.Yd.load rfl Try.isAgg3 (fun _ => Z.cellO (by assumption) (by simp) (by assumption)) | fail "load 7.15") ?_
                      refine Z.lb 3 rfl ?_
                      refine Z.l rfl rfl (by rfl) (Z.keepS hs) (Z.Yd.fieldA (m := 2) rfl (by kernel_rfl)) ?_
                      refine Z.l rfl rfl (by rfl) (Z.keepS hs) (by first | exact Z.Yd.load rfl Try.isAgg3 (fun _ => Z.cellB (by first | ((repeat (first | exact List.mem_cons_self | refine List.mem_cons_of_mem _ ?_ | refine List.mem_append_right _ ?_)); done) | fail) rfl) | exact Z.Yd.load rfl Try.isAgg3 (fun _ => Z.cellO (by assumption) (by simp) (by assumption)) | fail "load 7.20") ?_
                      refine Z.lb 3 rfl ?_
                      refine Z.l rfl rfl (by rfl) (Z.keepS hs) (Z.Yd.fieldA (m := 2) rfl (by kernel_rfl)) ?_
                      refine Z.l rfl rfl (by rfl) (Z.keepS hs) (by first | exact Z.Yd.load rfl Try.isAgg3 (fun _ => Z.cellB (by first | ((repeat (first | exact List.mem_cons_self | refine List.mem_cons_of_mem _ ?_ | refine List.mem_append_right _ ?_)); done) | fail) rfl) | exact Z.Yd.load rfl Try.isAgg3 (fun _ => Z.cellO (by assumption) (by simp) (by assumption)) | fail "load 7.25") ?_
                      refine Z.lb 3 rfl ?_
                      refine Z.l rfl rfl (by rfl) (Z.keepS hs) (Z.Yd.fieldA (m := 3) rfl (by kernel_rfl)) ?_
                      refine Z.l rfl rfl (by rfl) (Z.keepS hs) (by first | exact Z.Yd.load rfl Try.isAgg3 (fun _ => Z.cellB (by first | ((repeat (first | exact List.mem_cons_self | refine List.mem_cons_of_mem _ ?_ | refine List.mem_append_right _ ?_)); done) | fail) rfl) | exact Z.Yd.load rfl Try.isAgg3 (fun _ => Z.cellO (by assumption) (by simp) (by assumption)) | fail "load 7.30") ?_
                      refine Z.lb 3 rfl ?_
                      refine Z.l rfl rfl (by rfl) (Z.keepS hs) (Z.Yd.fieldA (m := 3) rfl (by kernel_rfl)) ?_
                      refine Z.l rfl rfl (by rfl) (Z.keepS hs) (by first | exact Z.Yd.load rfl Try.isAgg3 (fun _ => Z.cellB (by first | ((repeat (first | exact List.mem_cons_self | refine List.mem_cons_of_mem _ ?_ | refine List.mem_append_right _ ?_)); done) | fail) rfl) | exact Z.Yd.load rfl Try.isAgg3 (fun _ => Z.cellO (by assumption) (by simp) (by assumption)) | fail "load 7.35") ?_
                      refine Z.lb 3 rfl ?_
                      refine Z.l rfl rfl (by rfl) (Z.keepS hs) (Z.Yd.fieldA (m := 4) rfl (by kernel_rfl)) ?_
                      refine Z.l rfl rfl (by rfl) (Z.keepS hs) (by first | exact Z.Yd.load rfl Try.isAgg3 (fun _ => Z.cellB (by first | ((repeat (first | exact List.mem_cons_self | refine List.mem_cons_of_mem _ ?_ | refine List.mem_append_right _ ?_)); done) | fail) rfl) | exact Z.Yd.load rfl Try.isAgg3 (fun _ => Z.cellO (by assumption) (by simp) (by assumption)) | fail "load 7.40") ?_
                      refine Z.lb 3 rfl ?_
                      refine Z.l rfl rfl (by rfl) (Z.keepS hs) (Z.Yd.fieldA (m := 4) rfl (by kernel_rfl)) ?_
                      refine Z.l rfl rfl (by rfl) (Z.keepS hs) (by first | exact Z.Yd.load rfl Try.isAgg3 (fun _ => Z.cellB (by first | ((repeat (first | exact List.mem_cons_self | refine List.mem_cons_of_mem _ ?_ | refine List.mem_append_right _ ?_)); done) | fail) rfl) | exact Z.Yd.load rfl Try.isAgg3 (fun _ => Z.cellO (by assumption) (by simp) (by assumption)) | fail "load 7.45") ?_
                      refine Z.lb 2 rfl ?_
                      refine Z.lnil ?_
                      refine Z.only [0, 3, 4, 71] rfl ?_
                      refine Z.nthen ?_
                      exact Z.meet () (by refine ⟨?_, ?_, ?_, ?_, trivial⟩ <;> first | rfl | ((refine Z.lookv rfl ?_; congr 1; rw [Bool.eq_iff_iff]; simp only [Bool.not_eq_true', decide_eq_false_iff_not]; unfold okLg; simp; omega))) hs
                    · clear hs
                      rintro _ w7 hs
                      refine Z.only [0, 3, 4, 71] rfl ?_
                      refine Z.cond rfl (fun hc7 => ?_) (fun hc7 => ?_)
                      · first
                          | (exfalso; simp at hc7 <;> omega)
                          | (
                            (try simp at hc7)
                            have hno : ¬ okSet l := fun h => by have := h.2.1 xi hmm; contradiction
                            refine Z.seq ?_
                            refine Z.region ?_
                            refine Z.lb 1 rfl ?_
                            refine Z.lnil ?_
                            refine Z.only [2] rfl ?_
                            refine Z.nthen ?_
                            refine Z.ret ?_
                            repeat (first | refine Z.rthen ?_ | refine Z.rblock ?_ | refine Z.rscope ?_)
                            -- ret#1
                            refine Z.out1 (by exact ⟨rfl, trivial⟩) ?_
                            first
                            | exact ⟨_, rfl, by rw [decide_eq_false hno], hs.sub (List.nil_sublist _)⟩
                            | (rw [List.take_of_length_le (by omega)] at h1 h2
                               exact ⟨_, rfl, by rw [decide_eq_true (show okSet l from ⟨by omega, h1, h2⟩)], hs⟩)
                            )
                      · first
                          | (exfalso; simp at hc7 <;> omega)
                          | (
                            (try simp at hc7)
                            have hok : okLg xi := by assumption
                            refine Z.skip ?_
                            refine Z.nthen ?_
                            refine Z.seq ?_
                            refine Z.region ?_
                            refine Z.lb 1 rfl ?_
                            refine Z.lnil ?_
                            refine Z.only [0, 3, 4, 5] rfl ?_
                            refine Z.nthen ?_
                            refine Z.block ?_
                            refine Z.loopk (ι := Nat) [0, 3, 4] rfl (fun k => [(5, [], .int .i64 (k : Int))]) (fun k wr => (k ≤ i ∧ ∀ j : Nat, j < k → ¬ l[j]!.id = xi.id) ∧ SX.St w [] wr [SX.Ent.blk g4 38 xi.cells.toArray]) (fun k => i - k) 0 (by refine ⟨?_, trivial⟩ <;> (first | rfl | (refine Z.lookv rfl ?_; simp; done) | (refine Z.lookv rfl ?_; simp; omega))) ⟨⟨by omega, fun j hj => absurd hj (by omega)⟩, hs⟩ ?_
                            clear hs
                            rintro k w10 ⟨⟨hk, h3⟩, hs⟩
                            refine Z.only [0, 3, 4, 5] rfl ?_
                            refine Z.seq ?_
                            refine Z.seq ?_
                            refine Z.region ?_
                            refine Z.lb 3 rfl ?_
                            refine Z.lnil ?_
                            refine Z.only [0, 3, 4, 5, 74] rfl ?_
                            refine Z.nthen ?_
                            refine Z.cond rfl (fun hc10 => ?_) (fun hc10 => ?_)
                            · first
                                | (exfalso; simp at hc10 <;> omega)
                                | (
                                  (try simp at hc10)
                                  have hkl : l[k]? = some l[k]! := by rw [getElem!_pos l k (by omega)]; exact List.getElem?_eq_getElem (by omega)
                                  have h3k : ∀ j : Nat, j < k + 1 → j < k ∨ j = k := fun j hj => by omega
                                  refine Z.skip ?_
                                  refine Z.nthen ?_
                                  refine Z.seq ?_
                                  refine Z.block ?_
                                  refine Z.seq ?_
                                  refine Z.drawK (fun _ => true) mixed hs ?_
                                  clear hs; intro wd12 hs
                                  refine Z.tb [0, 1] (by kernel_rfl) rfl ⟨_, hs, by first | (simp; done) | exact fun e he => List.mem_append_right _ he⟩ rfl ?_
                                  refine Z.t 2 rfl rfl rfl (by rfl) (by kernel_rfl) ⟨_, hs, by first | (simp; done) | exact fun e he => List.mem_append_right _ he⟩ (Z.Yd.elem rfl rfl Try.underlying22 Try.sizeOf38 (fun hG => ⟨(by first | omega | (have hG' := Z.gh rfl hG; simp at hG'; omega)), (by first | omega | (have hG' := Z.gh rfl hG; simp at hG'; omega))⟩)) ?_
                                  refine Z.t 3 rfl rfl rfl (by rfl) (by kernel_rfl) ⟨_, hs, by first | (simp; done) | exact fun e he => List.mem_append_right _ he⟩ (Z.Yd.fieldA (m := 0) rfl (by kernel_rfl)) ?_
                                  refine Z.t 4 rfl rfl rfl (by rfl) (by kernel_rfl) ⟨_, hs, by first | (simp; done) | exact fun e he => List.mem_append_right _ he⟩ (Z.Yd.load rfl Try.isAgg3 (fun _ => Z.cellXf hx2.sx lg_len hkl rfl)) ?_
                                  refine Z.t 5 rfl rfl rfl (by rfl) (by kernel_rfl) ⟨_, hs, by first | (simp; done) | exact fun e he => List.mem_append_right _ he⟩ (Z.Yd.fieldA (m := 0) rfl (by kernel_rfl)) ?_
                                  refine Z.t 6 rfl rfl rfl (by rfl) (by kernel_rfl) ⟨_, hs, by first | (simp; done) | exact fun e he => List.mem_append_right _ he⟩ (by first | exact Z.Yd.load rfl Try.isAgg3 (fun _ => Z.cellB (by first | ((repeat (first | exact List.mem_cons_self | refine List.mem_cons_of_mem _ ?_ | refine List.mem_append_right _ ?_)); done) | fail) rfl) | exact Z.Yd.load rfl Try.isAgg3 (fun _ => Z.cellO (by assumption) (by simp) (by assumption)) | fail "load 12.6") ?_
                                  refine Z.tb [7] (by kernel_rfl) rfl ⟨_, hs, by first | (simp; done) | exact fun e he => List.mem_append_right _ he⟩ rfl ?_
                                  refine Z.td (by rfl) (by kernel_rfl) ?_
                                  refine Z.only [0, 3, 4, 5, 84] rfl ?_
                                  refine Z.nthen ?_
                                  refine Z.cond rfl (fun hc12 => ?_) (fun hc12 => ?_)
                                  · first
                                      | (exfalso; simp at hc12 <;> omega)
                                      | (
                                        (try simp at hc12)
                                        have hno : ¬ okSet l := fun h => by
                                          have h4 := hid.1 (h.2.2.sublist (List.take_sublist _ _)) k (by omega)
                                          simp at h4
                                          contradiction
                                        refine Z.seq ?_
                                        refine Z.region ?_
                                        refine Z.lb 1 rfl ?_
                                        refine Z.lnil ?_
                                        refine Z.only [2] rfl ?_
                                        refine Z.nthen ?_
                                        refine Z.ret ?_
                                        repeat (first | refine Z.rthen ?_ | refine Z.rblock ?_ | refine Z.rscope ?_)
                                        -- ret#2
                                        refine Z.out1 (by exact ⟨rfl, trivial⟩) ?_
                                        first
                                        | exact ⟨_, rfl, by rw [decide_eq_false hno], hs.sub (List.nil_sublist _)⟩
                                        | (rw [List.take_of_length_le (by omega)] at h1 h2
                                           exact ⟨_, rfl, by rw [decide_eq_true (show okSet l from ⟨by omega, h1, h2⟩)], hs⟩)
                                        )
                                  · first
                                      | (exfalso; simp at hc12 <;> omega)
                                      | (
                                        (try simp at hc12)
                                        have hne : ¬ l[k]!.id = xi.id := by simpa using hc12
                                        refine Z.skip ?_
                                        refine Z.nblock ?_
                                        refine Z.nthen ?_
                                        refine Z.region ?_
                                        refine Z.lb 1 rfl ?_
                                        refine Z.l rfl rfl (by rfl) (Z.keepS hs) (Z.Yd.add rfl rfl (fun hG => Z.wi64 (by first | omega | (have hG' := Z.gh rfl hG; simp at hG'; omega)))) ?_
                                        refine Z.lb 1 rfl ?_
                                        refine Z.lnil ?_
                                        refine Z.only [0, 3, 4, 5] rfl ?_
                                        refine Z.nthen ?_
                                        refine Z.again (k + 1) (by refine ⟨?_, ?_, ?_, ?_, trivial⟩ <;> (first | rfl | (refine Z.lookv rfl ?_; simp; done) | (refine Z.lookv rfl ?_; simp; omega))) ⟨⟨by omega, fun j hj => ?_⟩, hs⟩ (by omega)
                                        rcases h3k j hj with h | rfl
                                        · exact h3 j h
                                        · exact hne
                                        )
                                  )
                            · first
                                | (exfalso; simp at hc10 <;> omega)
                                | (
                                  (try simp at hc10)
                                  refine Z.exit ?_
                                  refine Z.xthen ?_
                                  refine Z.xthen ?_
                                  refine Z.xblock ?_
                                  refine Z.nblock ?_
                                  refine Z.nthen ?_
                                  refine Z.region ?_
                                  refine Z.lb 1 rfl ?_
                                  refine Z.l rfl rfl (by rfl) (Z.keepS hs) (Z.Yd.add rfl rfl (fun hG => Z.wi64 (by first | omega | (have hG' := Z.gh rfl hG; simp at hG'; omega)))) ?_
                                  refine Z.lb 1 rfl ?_
                                  refine Z.lnil ?_
                                  refine Z.only [0, 3] rfl ?_
                                  refine Z.nthen ?_
                                  refine Z.again (i + 1) (by refine ⟨?_, ?_, trivial⟩ <;> (first | rfl | (refine Z.lookv rfl ?_; simp; done) | (refine Z.lookv rfl ?_; simp; omega))) ⟨⟨by omega, ?_, hid.2 fun j hj => h3 j (by omega)⟩, hs.sub (List.nil_sublist _)⟩ (by omega)
                                  intro x hx
                                  rw [htk] at hx
                                  rcases List.mem_append.1 hx with hx | hx
                                  · exact h1 x hx
                                  · obtain rfl : x = xi := by simpa using hx
                                    exact hok
                                  )
                            )
                    )
              · first
                  | (exfalso; simp at hc4 <;> omega)
                  | (
                    (try simp at hc4)
                    refine Z.exit ?_
                    refine Z.xthen ?_
                    refine Z.xthen ?_
                    refine Z.xblock ?_
                    refine Z.nthen ?_
                    refine Z.seq ?_
                    refine Z.region ?_
                    refine Z.lb 1 rfl ?_
                    refine Z.lnil ?_
                    refine Z.only [2] rfl ?_
                    refine Z.nthen ?_
                    refine Z.ret ?_
                    -- ret#3
                    refine Z.out1 (by exact ⟨rfl, trivial⟩) ?_
                    first
                    | exact ⟨_, rfl, by rw [decide_eq_false hno], hs.sub (List.nil_sublist _)⟩
                    | (rw [List.take_of_length_le (by omega)] at h1 h2
                       exact ⟨_, rfl, by rw [decide_eq_true (show okSet l from ⟨by omega, h1, h2⟩)], hs⟩)
                    )
              )
        )
  · first
      | (exfalso; simp at hsp9 <;> omega)
      | (
        refine Z.yes (s := 9) (b := false) rfl hsp9 rfl ?_
        (try simp at hsp9)
        refine Z.lb 1 rfl ?_
        refine Z.l rfl rfl (by rfl) (Z.keepS hs) (Z.Yd.lenS rfl Try.underlying22) ?_
        refine Z.lb 1 rfl ?_
        refine Z.yes (s := 9) (b := false) rfl rfl rfl ?_
        refine Z.l rfl rfl (by rfl) (Z.keepS hs) (Z.Yd.pickF rfl rfl) ?_
        refine Z.lnil ?_
        refine Z.only [0, 13] rfl ?_
        refine Z.nthen ?_
        refine Z.cond rfl (fun hc1 => ?_) (fun hc1 => ?_)
        · first
            | (exfalso; simp at hc1 <;> omega)
            | (
              (try simp at hc1)
              have hno : ¬ okSet l := by rintro ⟨h1, -⟩; omega
              refine Z.seq ?_
              refine Z.region ?_
              refine Z.lb 1 rfl ?_
              refine Z.lnil ?_
              refine Z.only [2] rfl ?_
              refine Z.nthen ?_
              refine Z.ret ?_
              repeat (first | refine Z.rthen ?_ | refine Z.rblock ?_ | refine Z.rscope ?_)
              -- ret#4
              refine Z.out1 (by exact ⟨rfl, trivial⟩) ?_
              first
              | exact ⟨_, rfl, by rw [decide_eq_false hno], hs.sub (List.nil_sublist _)⟩
              | (rw [List.take_of_length_le (by omega)] at h1 h2
                 exact ⟨_, rfl, by rw [decide_eq_true (show okSet l from ⟨by omega, h1, h2⟩)], hs⟩)
              )
        · first
            | (exfalso; simp at hc1 <;> omega)
            | (
              (try simp at hc1)
              obtain ⟨bb, off, rfl, hb0, hx2⟩ := Z.Sl.some hx (by rw [flat_len lg_len]; omega)
              refine Z.skip ?_
              refine Z.nthen ?_
              refine Z.seq ?_
              refine Z.seq ?_
              refine Z.region ?_
              refine Z.lb 1 rfl ?_
              refine Z.lnil ?_
              refine Z.only [0, 3] rfl ?_
              refine Z.nthen ?_
              refine Z.block ?_
              refine Z.loopk (ι := Nat) [0] rfl (fun i => [(3, [], .int .i64 (i : Int))]) (fun i wr => (i ≤ n ∧ (∀ x ∈ l.take i, okLg x) ∧ ids (l.take i)) ∧ SX.St w [] wr []) (fun i => n - i) 0 (by refine ⟨?_, trivial⟩ <;> (first | rfl | (refine Z.lookv rfl ?_; simp; done) | (refine Z.lookv rfl ?_; simp; omega))) ⟨⟨by omega, by simp, by simp [ids]⟩, hs⟩ ?_
              clear hs
              rintro i w4 ⟨⟨hi, h1, h2⟩, hs⟩
              refine Z.only [0, 3] rfl ?_
              refine Z.seq ?_
              refine Z.seq ?_
              refine Z.region ?_
              refine Z.lb 2 rfl ?_
              refine Z.l rfl rfl (by rfl) (Z.keepS hs) (Z.Yd.lenS rfl Try.underlying22) ?_
              refine Z.lb 1 rfl ?_
              refine Z.lnil ?_
              refine Z.only [0, 3, 17] rfl ?_
              refine Z.nthen ?_
              refine Z.cond rfl (fun hc4 => ?_) (fun hc4 => ?_)
              · first
                  | (exfalso; simp at hc4 <;> omega)
                  | (
                    (try simp at hc4)
                    have hlt : i < l.length := by omega
                    have hel : l[i]? = some l[i]! := by rw [getElem!_pos l i hlt]; exact List.getElem?_eq_getElem hlt
                    have hid := ids_take hlt h2
                    have hmm : l[i]! ∈ l := List.mem_of_getElem? hel
                    have htk : l.take (i + 1) = l.take i ++ [l[i]!] := by rw [List.take_add_one, hel]; rfl
                    generalize l[i]! = xi at hel hid hmm htk
                    have hone := lg_one xi
                    refine Z.skip ?_
                    refine Z.nthen ?_
                    refine Z.seq ?_
                    refine Z.block ?_
                    refine Z.seq ?_
                    refine Z.region ?_
                    refine Z.lb 2 rfl ?_
                    refine Z.l rfl rfl (by rfl) (Z.keepS hs) (Z.Yd.elem rfl rfl Try.underlying22 Try.sizeOf38 (fun hG => ⟨(by first | omega | (have hG' := Z.gh rfl hG; simp at hG'; omega)), (by first | omega | (have hG' := Z.gh rfl hG; simp at hG'; omega))⟩)) ?_
                    refine Z.l rfl rfl (by rfl) (Z.keepS hs) (Z.Yd.loadA _ rfl Try.isAgg38 (fun _ W hK j u hu => Z.cellXq (enc := LgV.cells) hx2.sx lg_len hel hu W hK) (by exact Try.sizeOf38)) ?_
                    refine Z.le rfl trivial ?_
                    refine Z.ZO.alloc rfl rfl (by rfl) Try.zeroValue38 rfl hs ?_
                    clear hs; intro g4 w4 hs
                    refine Z.le rfl trivial ?_
                    first | refine Z.ZO.storeA rfl rfl hs rfl rfl (by kernel_rfl) (by first | (simp [Value.oneCell']; done) | (refine Z.all_one ?_; assumption)) (by first | exact SX.at0 | exact SX.at1 | exact SX.at2 | exact SX.at3 | exact SX.at4 | exact SX.at5 | exact Z.at6 | exact Z.at7 | exact Z.at8 | exact Z.at9 | exact Z.at10 | exact Z.at11 | exact Z.at12) (by rfl) ?_ | refine Z.ZO.storeP rfl rfl hs rfl rfl (by kernel_rfl) (by first | (simp [Value.oneCell']; done) | (refine Z.all_one ?_; assumption)) (by first | exact SX.at0 | exact SX.at1 | exact SX.at2 | exact SX.at3 | exact SX.at4 | exact SX.at5 | exact Z.at6 | exact Z.at7 | exact Z.at8 | exact Z.at9 | exact Z.at10 | exact Z.at11 | exact Z.at12) (by first | decide | (simp; done) | (simp; omega)) ?_ | refine Z.ZO.storePR rfl rfl hs rfl rfl (by kernel_rfl) (by first | (simp [Value.oneCell']; done) | (refine Z.all_one ?_; assumption)) (by first | exact SX.at0 | exact SX.at1 | exact SX.at2 | exact SX.at3 | exact SX.at4 | exact SX.at5 | exact Z.at6 | exact Z.at7 | exact Z.at8 | exact Z.at9 | exact Z.at10 | exact Z.at11 | exact Z.at12) (by first | decide | (simp; done) | (simp; omega)) ?_
                    clear hs; intro ws hs
                    simp only [Nat.zero_add, Nat.add_zero, Nat.reduceAdd, Int.reduceToNat, Nat.reduceMul, List.set_cons_zero, List.set_cons_succ, List.setIfInBounds_toArray] at hs
                    try simp only [Z.putL, Nat.zero_add] at hs
                    refine Z.lnil ?_
                    refine Z.only [0, 3, 4] rfl ?_
                    refine Z.nthen ?_
                    refine Z.seq ?_
                    refine Z.seq ?_
                    refine Z.cutt (ι := Unit) [0, 3, 4] rfl (fun _ => [(71, [], .bool (!decide (okLg xi)))]) (fun _ wr => SX.St w [] wr [SX.Ent.blk g4 38 xi.cells.toArray]) ?_ ?_
                    · skip
                      refine Z.region ?_
                      refine Z.l rfl rfl (by rfl) (Z.keepS hs) (Z.Yd.fieldA (m := 0) rfl (by kernel_rfl)) ?_
                      refine Z.l rfl rfl (by rfl) (Z.keepS hs) (by first | exact Z.Yd.load rfl Try.isAgg3 (fun _ => Z.cellB (by first | ((repeat (first | exact List.mem_cons_self | refine List.mem_cons_of_mem _ ?_ | refine List.mem_append_right _ ?_)); done) | fail) rfl) | exact Z.Yd.load rfl Try.isAgg3 (fun _ => Z.cellO (by assumption) (by simp) (by assumption)) | fail "load 7.1") ?_
                      refine Z.lb 2 rfl ?_
                      refine Z.l rfl rfl (by rfl) (Z.keepS hs) (Z.Yd.fieldA (m := 0) rfl (by kernel_rfl)) ?_
                      refine Z.l rfl rfl (by rfl) (Z.keepS hs) (by first | exact Z.Yd.load rfl Try.isAgg3 (fun _ => Z.cellB (by first | ((repeat (first | exact List.mem_cons_self | refine List.mem_cons_of_mem _ ?_ | refine List.mem_append_right _ ?_)); done) | fail) rfl) | exact Z.Yd.load rfl Try.isAgg3 (fun _ => Z.cellO (by assumption) (by simp) (by assumption)) | fail "load 7.5") ?_
                      refine Z.lb 3 rfl ?_
                      refine Z.l rfl rfl (by rfl) (Z.keepS hs) (Z.Yd.fieldA (m := 1) rfl (by kernel_rfl)) ?_
                      refine Z.l rfl rfl (by rfl) (Z.keepS hs) (by first | exact Z.Yd.load rfl Try.isAgg3 (fun _ => Z.cellB (by first | ((repeat (first | exact List.mem_cons_self | refine List.mem_cons_of_mem _ ?_ | refine List.mem_append_right _ ?_)); done) | fail) rfl) | exact Z.Yd.load rfl Try.isAgg3 (fun _ => Z.cellO (by assumption) (by simp) (by assumption)) | fail "load 7.10") ?_
                      refine Z.lb 3 rfl ?_
                      refine Z.l rfl rfl (by rfl) (Z.keepS hs) (Z.Yd.fieldA (m := 1) rfl (by kernel_rfl)) ?_
                      refine Z.l rfl rfl (by rfl) (Z.keepS hs) (by first | exact Z.Yd.load rfl Try.isAgg3 (fun _ => Z.cellB (by first | ((repeat (first | exact List.mem_cons_self | refine List.mem_cons_of_mem _ ?_ | refine List.mem_append_right _ ?_)); done) | fail) rfl) | exact Z.Yd.load rfl Try.isAgg3 (fun _ => Z.cellO (by assumption) (by simp) (by assumption)) | fail "load 7.15") ?_
                      refine Z.lb 3 rfl ?_
                      refine Z.l rfl rfl (by rfl) (Z.keepS hs) (Z.Yd.fieldA (m := 2) rfl (by kernel_rfl)) ?_
                      refine Z.l rfl rfl (by rfl) (Z.keepS hs) (by first | exact Z.Yd.load rfl Try.isAgg3 (fun _ => Z.cellB (by first | ((repeat (first | exact List.mem_cons_self | refine List.mem_cons_of_mem _ ?_ | refine List.mem_append_right _ ?_)); done) | fail) rfl) | exact Z.Yd.load rfl Try.isAgg3 (fun _ => Z.cellO (by assumption) (by simp) (by assumption)) | fail "load 7.20") ?_
                      refine Z.lb 3 rfl ?_
                      refine Z.l rfl rfl (by rfl) (Z.keepS hs) (Z.Yd.fieldA (m := 2) rfl (by kernel_rfl)) ?_
                      refine Z.l rfl rfl (by rfl) (Z.keepS hs) (by first | exact Z.Yd.load rfl Try.isAgg3 (fun _ => Z.cellB (by first | ((repeat (first | exact List.mem_cons_self | refine List.mem_cons_of_mem _ ?_ | refine List.mem_append_right _ ?_)); done) | fail) rfl) | exact Z.Yd.load rfl Try.isAgg3 (fun _ => Z.cellO (by assumption) (by simp) (by assumption)) | fail "load 7.25") ?_
                      refine Z.lb 3 rfl ?_
                      refine Z.l rfl rfl (by rfl) (Z.keepS hs) (Z.Yd.fieldA (m := 3) rfl (by kernel_rfl)) ?_
                      refine Z.l rfl rfl (by rfl) (Z.keepS hs) (by first | exact Z.Yd.load rfl Try.isAgg3 (fun _ => Z.cellB (by first | ((repeat (first | exact List.mem_cons_self | refine List.mem_cons_of_mem _ ?_ | refine List.mem_append_right _ ?_)); done) | fail) rfl) | exact Z.Yd.load rfl Try.isAgg3 (fun _ => Z.cellO (by assumption) (by simp) (by assumption)) | fail "load 7.30") ?_
                      refine Z.lb 3 rfl ?_
                      refine Z.l rfl rfl (by rfl) (Z.keepS hs) (Z.Yd.fieldA (m := 3) rfl (by kernel_rfl)) ?_
                      refine Z.l rfl rfl (by rfl) (Z.keepS hs) (by first | exact Z.Yd.load rfl Try.isAgg3 (fun _ => Z.cellB (by first | ((repeat (first | exact List.mem_cons_self | refine List.mem_cons_of_mem _ ?_ | refine List.mem_append_right _ ?_)); done) | fail) rfl) | exact Z.Yd.load rfl Try.isAgg3 (fun _ => Z.cellO (by assumption) (by simp) (by assumption)) | fail "load 7.35") ?_
                      refine Z.lb 3 rfl ?_
                      refine Z.l rfl rfl (by rfl) (Z.keepS hs) (Z.Yd.fieldA (m := 4) rfl (by kernel_rfl)) ?_
                      refine Z.l rfl rfl (by rfl) (Z.keepS hs) (by first | exact Z.Yd.load rfl Try.isAgg3 (fun _ => Z.cellB (by first | ((repeat (first | exact List.mem_cons_self | refine List.mem_cons_of_mem _ ?_ | refine List.mem_append_right _ ?_)); done) | fail) rfl) | exact Z.Yd.load rfl Try.isAgg3 (fun _ => Z.cellO (by assumption) (by simp) (by assumption)) | fail "load 7.40") ?_
                      refine Z.lb 3 rfl ?_
                      refine Z.l rfl rfl (by rfl) (Z.keepS hs) (Z.Yd.fieldA (m := 4) rfl (by kernel_rfl)) ?_
                      refine Z.l rfl rfl (by rfl) (Z.keepS hs) (by first | exact Z.Yd.load rfl Try.isAgg3 (fun _ => Z.cellB (by first | ((repeat (first | exact List.mem_cons_self | refine List.mem_cons_of_mem _ ?_ | refine List.mem_append_right _ ?_)); done) | fail) rfl) | exact Z.Yd.load rfl Try.isAgg3 (fun _ => Z.cellO (by assumption) (by simp) (by assumption)) | fail "load 7.45") ?_
                      refine Z.lb 2 rfl ?_
                      refine Z.lnil ?_
                      refine Z.only [0, 3, 4, 71] rfl ?_
                      refine Z.nthen ?_
                      exact Z.meet () (by refine ⟨?_, ?_, ?_, ?_, trivial⟩ <;> first | rfl | ((refine Z.lookv rfl ?_; congr 1; rw [Bool.eq_iff_iff]; simp only [Bool.not_eq_true', decide_eq_false_iff_not]; unfold okLg; simp; omega))) hs
                    · clear hs
                      rintro _ w7 hs
                      refine Z.only [0, 3, 4, 71] rfl ?_
                      refine Z.cond rfl (fun hc7 => ?_) (fun hc7 => ?_)
                      · first
                          | (exfalso; simp at hc7 <;> omega)
                          | (
                            (try simp at hc7)
                            have hno : ¬ okSet l := fun h => by have := h.2.1 xi hmm; contradiction
                            refine Z.seq ?_
                            refine Z.region ?_
                            refine Z.lb 1 rfl ?_
                            refine Z.lnil ?_
                            refine Z.only [2] rfl ?_
                            refine Z.nthen ?_
                            refine Z.ret ?_
                            repeat (first | refine Z.rthen ?_ | refine Z.rblock ?_ | refine Z.rscope ?_)
                            -- ret#5
                            refine Z.out1 (by exact ⟨rfl, trivial⟩) ?_
                            first
                            | exact ⟨_, rfl, by rw [decide_eq_false hno], hs.sub (List.nil_sublist _)⟩
                            | (rw [List.take_of_length_le (by omega)] at h1 h2
                               exact ⟨_, rfl, by rw [decide_eq_true (show okSet l from ⟨by omega, h1, h2⟩)], hs⟩)
                            )
                      · first
                          | (exfalso; simp at hc7 <;> omega)
                          | (
                            (try simp at hc7)
                            have hok : okLg xi := by assumption
                            refine Z.skip ?_
                            refine Z.nthen ?_
                            refine Z.seq ?_
                            refine Z.region ?_
                            refine Z.lb 1 rfl ?_
                            refine Z.lnil ?_
                            refine Z.only [0, 3, 4, 5] rfl ?_
                            refine Z.nthen ?_
                            refine Z.block ?_
                            refine Z.loopk (ι := Nat) [0, 3, 4] rfl (fun k => [(5, [], .int .i64 (k : Int))]) (fun k wr => (k ≤ i ∧ ∀ j : Nat, j < k → ¬ l[j]!.id = xi.id) ∧ SX.St w [] wr [SX.Ent.blk g4 38 xi.cells.toArray]) (fun k => i - k) 0 (by refine ⟨?_, trivial⟩ <;> (first | rfl | (refine Z.lookv rfl ?_; simp; done) | (refine Z.lookv rfl ?_; simp; omega))) ⟨⟨by omega, fun j hj => absurd hj (by omega)⟩, hs⟩ ?_
                            clear hs
                            rintro k w10 ⟨⟨hk, h3⟩, hs⟩
                            refine Z.only [0, 3, 4, 5] rfl ?_
                            refine Z.seq ?_
                            refine Z.seq ?_
                            refine Z.region ?_
                            refine Z.lb 3 rfl ?_
                            refine Z.lnil ?_
                            refine Z.only [0, 3, 4, 5, 74] rfl ?_
                            refine Z.nthen ?_
                            refine Z.cond rfl (fun hc10 => ?_) (fun hc10 => ?_)
                            · first
                                | (exfalso; simp at hc10 <;> omega)
                                | (
                                  (try simp at hc10)
                                  have hkl : l[k]? = some l[k]! := by rw [getElem!_pos l k (by omega)]; exact List.getElem?_eq_getElem (by omega)
                                  have h3k : ∀ j : Nat, j < k + 1 → j < k ∨ j = k := fun j hj => by omega
                                  refine Z.skip ?_
                                  refine Z.nthen ?_
                                  refine Z.seq ?_
                                  refine Z.block ?_
                                  refine Z.seq ?_
                                  refine Z.drawK (fun _ => true) mixed hs ?_
                                  clear hs; intro wd12 hs
                                  refine Z.tb [0, 1] (by kernel_rfl) rfl ⟨_, hs, by first | (simp; done) | exact fun e he => List.mem_append_right _ he⟩ rfl ?_
                                  refine Z.t 2 rfl rfl rfl (by rfl) (by kernel_rfl) ⟨_, hs, by first | (simp; done) | exact fun e he => List.mem_append_right _ he⟩ (Z.Yd.elem rfl rfl Try.underlying22 Try.sizeOf38 (fun hG => ⟨(by first | omega | (have hG' := Z.gh rfl hG; simp at hG'; omega)), (by first | omega | (have hG' := Z.gh rfl hG; simp at hG'; omega))⟩)) ?_
                                  refine Z.t 3 rfl rfl rfl (by rfl) (by kernel_rfl) ⟨_, hs, by first | (simp; done) | exact fun e he => List.mem_append_right _ he⟩ (Z.Yd.fieldA (m := 0) rfl (by kernel_rfl)) ?_
                                  refine Z.t 4 rfl rfl rfl (by rfl) (by kernel_rfl) ⟨_, hs, by first | (simp; done) | exact fun e he => List.mem_append_right _ he⟩ (Z.Yd.load rfl Try.isAgg3 (fun _ => Z.cellXf hx2.sx lg_len hkl rfl)) ?_
                                  refine Z.t 5 rfl rfl rfl (by rfl) (by kernel_rfl) ⟨_, hs, by first | (simp; done) | exact fun e he => List.mem_append_right _ he⟩ (Z.Yd.fieldA (m := 0) rfl (by kernel_rfl)) ?_
                                  refine Z.t 6 rfl rfl rfl (by rfl) (by kernel_rfl) ⟨_, hs, by first | (simp; done) | exact fun e he => List.mem_append_right _ he⟩ (by first | exact Z.Yd.load rfl Try.isAgg3 (fun _ => Z.cellB (by first | ((repeat (first | exact List.mem_cons_self | refine List.mem_cons_of_mem _ ?_ | refine List.mem_append_right _ ?_)); done) | fail) rfl) | exact Z.Yd.load rfl Try.isAgg3 (fun _ => Z.cellO (by assumption) (by simp) (by assumption)) | fail "load 12.6") ?_
                                  refine Z.tb [7] (by kernel_rfl) rfl ⟨_, hs, by first | (simp; done) | exact fun e he => List.mem_append_right _ he⟩ rfl ?_
                                  refine Z.td (by rfl) (by kernel_rfl) ?_
                                  refine Z.only [0, 3, 4, 5, 84] rfl ?_
                                  refine Z.nthen ?_
                                  refine Z.cond rfl (fun hc12 => ?_) (fun hc12 => ?_)
                                  · first
                                      | (exfalso; simp at hc12 <;> omega)
                                      | (
                                        (try simp at hc12)
                                        have hno : ¬ okSet l := fun h => by
                                          have h4 := hid.1 (h.2.2.sublist (List.take_sublist _ _)) k (by omega)
                                          simp at h4
                                          contradiction
                                        refine Z.seq ?_
                                        refine Z.region ?_
                                        refine Z.lb 1 rfl ?_
                                        refine Z.lnil ?_
                                        refine Z.only [2] rfl ?_
                                        refine Z.nthen ?_
                                        refine Z.ret ?_
                                        repeat (first | refine Z.rthen ?_ | refine Z.rblock ?_ | refine Z.rscope ?_)
                                        -- ret#6
                                        refine Z.out1 (by exact ⟨rfl, trivial⟩) ?_
                                        first
                                        | exact ⟨_, rfl, by rw [decide_eq_false hno], hs.sub (List.nil_sublist _)⟩
                                        | (rw [List.take_of_length_le (by omega)] at h1 h2
                                           exact ⟨_, rfl, by rw [decide_eq_true (show okSet l from ⟨by omega, h1, h2⟩)], hs⟩)
                                        )
                                  · first
                                      | (exfalso; simp at hc12 <;> omega)
                                      | (
                                        (try simp at hc12)
                                        have hne : ¬ l[k]!.id = xi.id := by simpa using hc12
                                        refine Z.skip ?_
                                        refine Z.nblock ?_
                                        refine Z.nthen ?_
                                        refine Z.region ?_
                                        refine Z.lb 1 rfl ?_
                                        refine Z.l rfl rfl (by rfl) (Z.keepS hs) (Z.Yd.add rfl rfl (fun hG => Z.wi64 (by first | omega | (have hG' := Z.gh rfl hG; simp at hG'; omega)))) ?_
                                        refine Z.lb 1 rfl ?_
                                        refine Z.lnil ?_
                                        refine Z.only [0, 3, 4, 5] rfl ?_
                                        refine Z.nthen ?_
                                        refine Z.again (k + 1) (by refine ⟨?_, ?_, ?_, ?_, trivial⟩ <;> (first | rfl | (refine Z.lookv rfl ?_; simp; done) | (refine Z.lookv rfl ?_; simp; omega))) ⟨⟨by omega, fun j hj => ?_⟩, hs⟩ (by omega)
                                        rcases h3k j hj with h | rfl
                                        · exact h3 j h
                                        · exact hne
                                        )
                                  )
                            · first
                                | (exfalso; simp at hc10 <;> omega)
                                | (
                                  (try simp at hc10)
                                  refine Z.exit ?_
                                  refine Z.xthen ?_
                                  refine Z.xthen ?_
                                  refine Z.xblock ?_
                                  refine Z.nblock ?_
                                  refine Z.nthen ?_
                                  refine Z.region ?_
                                  refine Z.lb 1 rfl ?_
                                  refine Z.l rfl rfl (by rfl) (Z.keepS hs) (Z.Yd.add rfl rfl (fun hG => Z.wi64 (by first | omega | (have hG' := Z.gh rfl hG; simp at hG'; omega)))) ?_
                                  refine Z.lb 1 rfl ?_
                                  refine Z.lnil ?_
                                  refine Z.only [0, 3] rfl ?_
                                  refine Z.nthen ?_
                                  refine Z.again (i + 1) (by refine ⟨?_, ?_, trivial⟩ <;> (first | rfl | (refine Z.lookv rfl ?_; simp; done) | (refine Z.lookv rfl ?_; simp; omega))) ⟨⟨by omega, ?_, hid.2 fun j hj => h3 j (by omega)⟩, hs.sub (List.nil_sublist _)⟩ (by omega)
                                  intro x hx
                                  rw [htk] at hx
                                  rcases List.mem_append.1 hx with hx | hx
                                  · exact h1 x hx
                                  · obtain rfl : x = xi := by simpa using hx
                                    exact hok
                                  )
                            )
                    )
              · first
                  | (exfalso; simp at hc4 <;> omega)
                  | (
                    (try simp at hc4)
                    refine Z.exit ?_
                    refine Z.xthen ?_
                    refine Z.xthen ?_
                    refine Z.xblock ?_
                    refine Z.nthen ?_
                    refine Z.seq ?_
                    refine Z.region ?_
                    refine Z.lb 1 rfl ?_
                    refine Z.lnil ?_
                    refine Z.only [2] rfl ?_
                    refine Z.nthen ?_
                    refine Z.ret ?_
                    -- ret#7
                    refine Z.out1 (by exact ⟨rfl, trivial⟩) ?_
                    first
                    | exact ⟨_, rfl, by rw [decide_eq_false hno], hs.sub (List.nil_sublist _)⟩
                    | (rw [List.take_of_length_le (by omega)] at h1 h2
                       exact ⟨_, rfl, by rw [decide_eq_true (show okSet l from ⟨by omega, h1, h2⟩)], hs⟩)
                    )
              )
        )
/-- the document's object, for reading -/
def rvC (A B : Option Addr) (n c d : Nat) (now : Int) : Array Value := #[.slice A n c, .slice B n d, .int .i64 now]
set_option maxHeartbeats 1000000 in
set_option maxRecDepth 100000 in
theorem rv_new (A : Option Addr) (n c : Nat) (l : List LgV) (w : World) (hx : Sl w A (l.flatMap LgV.cells)) (hl : l.length = n) :
    Calls Try.prog 10 #[.slice A n c] w (SX.Ret fun v w' => if okSet l then ∃ Ra Rb ca cb, v = .tuple #[.agg (rvC Ra Rb n ca cb 0), .int .i64 0] ∧ SX.St w [] w' [SX.Ent.row (.slice Ra n ca) 38 5 n (l.flatMap LgV.cells), SX.Ent.row (.slice Rb n cb) 3 1 n (ints .i64 (newB l).b)] else v = .tuple #[.agg (rvC none none 0 0 0 0), .int .i64 2] ∧ SX.St w [] w' []) := by
  have hs := SX.St.start w
  have hfl : (l.flatMap LgV.cells).length = n * 5 := by rw [flat_len lg_len, hl]
  have hfo := flat_one lg_one l
  refine Z.enter Try.func10 rfl Try.ntmps10 rfl rfl ?_
  refine Z.seq ?_
  refine Z.region ?_
  refine Z.le rfl trivial ?_
  refine Z.ZO.alloc rfl rfl (by rfl) Try.zeroValue30 rfl hs ?_
  clear hs; intro g2 w2 hs
  refine Z.lb 1 rfl ?_
  refine Z.lnil ?_
  refine Z.only [0, 2] rfl ?_
  refine Z.nthen ?_
  refine Z.seq ?_
  refine Z.seq ?_
  refine Z.region ?_
  refine Z.lb 1 rfl ?_
  refine Z.le rfl trivial ?_
  refine Z.ZO.call rfl rfl (by rfl) rfl rfl Try.call13 rfl (rv_valid A n c l _ (hx.st (hs.sub (List.nil_sublist _))) hl) ?_
  rintro v1_1 w1_1 ⟨rfl, hy⟩
  replace hs := hs.call hy
  clear hy
  try simp only [List.cons_append, List.nil_append, List.append_nil] at hs
  refine Z.lb 1 rfl ?_
  refine Z.lnil ?_
  refine Z.only [0, 2, 6] rfl ?_
  refine Z.nthen ?_
  refine Z.cond rfl (fun hc1 => ?_) (fun hc1 => ?_)
  · first
      | (exfalso; simp at hc1 <;> omega)
      | (
        (try simp at hc1)
        have hno : ¬ okSet l := by assumption
        refine Z.seq ?_
        refine Z.region ?_
        refine Z.l rfl rfl (by rfl) (Z.keepS hs) (Z.Yd.buildL [(0, 1), (1, 1), (2, 1)] [.slice none 0 0, .slice none 0 0, .int .i64 0] rfl rfl (by intro w; kernel_rfl)) ?_
        refine Z.le rfl trivial ?_
        first | refine Z.ZO.storeA rfl rfl hs rfl rfl (by kernel_rfl) (by first | (simp [Value.oneCell']; done) | (refine Z.all_one ?_; assumption)) (by first | exact SX.at0 | exact SX.at1 | exact SX.at2 | exact SX.at3 | exact SX.at4 | exact SX.at5 | exact Z.at6 | exact Z.at7 | exact Z.at8 | exact Z.at9 | exact Z.at10 | exact Z.at11 | exact Z.at12) (by rfl) ?_ | refine Z.ZO.storeP rfl rfl hs rfl rfl (by kernel_rfl) (by first | (simp [Value.oneCell']; done) | (refine Z.all_one ?_; assumption)) (by first | exact SX.at0 | exact SX.at1 | exact SX.at2 | exact SX.at3 | exact SX.at4 | exact SX.at5 | exact Z.at6 | exact Z.at7 | exact Z.at8 | exact Z.at9 | exact Z.at10 | exact Z.at11 | exact Z.at12) (by first | decide | (simp; done) | (simp; omega)) ?_ | refine Z.ZO.storePR rfl rfl hs rfl rfl (by kernel_rfl) (by first | (simp [Value.oneCell']; done) | (refine Z.all_one ?_; assumption)) (by first | exact SX.at0 | exact SX.at1 | exact SX.at2 | exact SX.at3 | exact SX.at4 | exact SX.at5 | exact Z.at6 | exact Z.at7 | exact Z.at8 | exact Z.at9 | exact Z.at10 | exact Z.at11 | exact Z.at12) (by first | decide | (simp; done) | (simp; omega)) ?_
        clear hs; intro ws hs
        simp only [Nat.zero_add, Nat.add_zero, Nat.reduceAdd, Int.reduceToNat, Nat.reduceMul, List.set_cons_zero, List.set_cons_succ, List.setIfInBounds_toArray] at hs
        try simp only [Z.putL, Nat.zero_add] at hs
        refine Z.lb 1 rfl ?_
        refine Z.lnil ?_
        refine Z.only [2, 3] rfl ?_
        refine Z.nthen ?_
        refine Z.ret ?_
        repeat (first | refine Z.rthen ?_ | refine Z.rblock ?_ | refine Z.rscope ?_)
        -- ret#0
        refine Z.out2 (by exact ⟨⟨_, rfl, Z.rvcA hs Try.isAgg30 (by first | ((repeat (first | exact List.mem_cons_self | refine List.mem_cons_of_mem _ ?_ | refine List.mem_append_right _ ?_)); done) | fail) (by exact Try.sizeOf30)⟩, rfl, trivial⟩) ?_
        first
        | (refine ⟨_, rfl, ?_⟩
           dsimp only
           rw [if_neg hno]
           exact ⟨rfl, hs.sub (List.nil_sublist _)⟩)
        | (refine ⟨_, rfl, ?_⟩
           dsimp only
           rw [if_pos hset]
           refine ⟨Ra, some ⟨g13, 0, none⟩, ca, n, rfl, ?_⟩
           rw [show ints .i64 (newB l).b = List.replicate n (.int .i64 0) by simp [ints, newB, hl]]
           first
           | exact hs.sel [1, 0] (by decide)
           | exact hs.sel [0, 1] (by decide)
           | exact hs.sel [1, 2] (by decide)
           | exact hs.sel [2, 1] (by decide))
        )
  · first
      | (exfalso; simp at hc1 <;> omega)
      | (
        (try simp at hc1)
        have hset : okSet l := by assumption
        have hn1 := hset.1
        refine Z.skip ?_
        refine Z.nthen ?_
        refine Z.seq ?_
        refine Z.drawL [] (fun _ => true) mixed hs ?_
        clear hs; intro wd3 hs
        refine Z.tb [1, 3] (by kernel_rfl) rfl ⟨_, hs, by first | (simp; done) | exact fun e he => List.mem_append_right _ he⟩ rfl ?_
        refine Z.t 4 rfl rfl rfl (by rfl) (by kernel_rfl) ⟨_, hs, by first | (simp; done) | exact fun e he => List.mem_append_right _ he⟩ (Z.Yd.lenS rfl Try.underlying22) ?_
        refine Z.fork2 0 5 rfl rfl rfl (by kernel_rfl) rfl rfl trivial trivial ?_ ?_
        · skip
          refine Z.ZO.empty rfl rfl (by rfl) Try.underlying22 Try.sizeOf38 hs ?_
          clear hs; intro g8 w8 hs
          refine Z.tk (Dn := fun _ => true) (i := 0) (fun _ => ⟨_, hs, by first | (simp; done) | exact fun e he => List.mem_append_right _ he⟩) ?_
          refine Z.fork2 2 5 rfl rfl rfl (by kernel_rfl) rfl rfl trivial trivial ?_ ?_
          · skip
            refine Z.ZO.appendG (i0 := Try.t38) (size := 5) (bytes := 40) rfl rfl (by rfl) hs Try.underlying22 (by kernel_rfl) rfl rfl rfl rfl (by decide) rfl rfl (by first | exact SX.at0 | exact SX.at1 | exact SX.at2 | exact SX.at3 | exact SX.at4 | exact SX.at5 | exact Z.at6 | exact Z.at7 | exact Z.at8 | exact Z.at9 | exact Z.at10 | exact Z.at11 | exact Z.at12) (hx.st (hs.sub (List.nil_sublist _))) (by first | rfl | assumption | (simp [ints_length]; done) | (simp [ints_length]; omega)) (by first | exact Z.ints_one | assumption | simp [Value.oneCell']) (by unfold maxLen; omega) (by omega) ?_
            clear hs; intro v10 w10 hs
            simp only [List.set_cons_zero, List.set_cons_succ] at hs
            refine Z.tk (Dn := fun _ => true) (i := 2) (fun _ => ⟨_, hs, by first | (simp; done) | exact fun e he => List.mem_append_right _ he⟩) ?_
            refine Z.tn 5 rfl rfl (by kernel_rfl) rfl trivial ?_
            refine Z.ZO.make1 (i0 := Try.t3) (bytes := 8) rfl rfl (by rfl) hs Try.underlying28 (by kernel_rfl) rfl rfl rfl rfl rfl rfl (by omega) (by unfold maxLen; omega) ?_
            clear hs; intro g13 w13 hs
            refine Z.tk (Dn := fun _ => true) (i := 5) (fun _ => ⟨_, hs, by first | (simp; done) | exact fun e he => List.mem_append_right _ he⟩) ?_
            simp only [Nat.zero_add, List.nil_append] at hs
            have hq : ∃ Ra ca, v10 = .slice Ra n ca := by
              first
              | (obtain ⟨Ra, ca, h, -⟩ := SX.row_slv hs (j := 1) rfl
                 exact ⟨Ra, ca, h⟩)
              | (obtain ⟨Ra, ca, h, -⟩ := SX.row_slv hs (j := 0) rfl
                 exact ⟨Ra, ca, h⟩)
            obtain ⟨Ra, ca, rfl⟩ := hq
            refine Z.t 6 rfl rfl rfl (by rfl) (by kernel_rfl) ⟨_, hs, by first | (simp; done) | exact fun e he => List.mem_append_right _ he⟩ (Z.Yd.buildL [(0, 1), (1, 1), (2, 1)] [.slice none 0 0, .slice none 0 0, .int .i64 0] rfl rfl (by intro w; kernel_rfl)) ?_
            refine Z.tn 7 rfl rfl (by kernel_rfl) rfl trivial ?_
            first | refine Z.ZO.storeA rfl rfl hs rfl rfl (by kernel_rfl) (by first | (simp [Value.oneCell']; done) | (refine Z.all_one ?_; assumption)) (by first | exact SX.at0 | exact SX.at1 | exact SX.at2 | exact SX.at3 | exact SX.at4 | exact SX.at5 | exact Z.at6 | exact Z.at7 | exact Z.at8 | exact Z.at9 | exact Z.at10 | exact Z.at11 | exact Z.at12) (by rfl) ?_ | refine Z.ZO.storeP rfl rfl hs rfl rfl (by kernel_rfl) (by first | (simp [Value.oneCell']; done) | (refine Z.all_one ?_; assumption)) (by first | exact SX.at0 | exact SX.at1 | exact SX.at2 | exact SX.at3 | exact SX.at4 | exact SX.at5 | exact Z.at6 | exact Z.at7 | exact Z.at8 | exact Z.at9 | exact Z.at10 | exact Z.at11 | exact Z.at12) (by first | decide | (simp; done) | (simp; omega)) ?_ | refine Z.ZO.storePR rfl rfl hs rfl rfl (by kernel_rfl) (by first | (simp [Value.oneCell']; done) | (refine Z.all_one ?_; assumption)) (by first | exact SX.at0 | exact SX.at1 | exact SX.at2 | exact SX.at3 | exact SX.at4 | exact SX.at5 | exact Z.at6 | exact Z.at7 | exact Z.at8 | exact Z.at9 | exact Z.at10 | exact Z.at11 | exact Z.at12) (by first | decide | (simp; done) | (simp; omega)) ?_
            clear hs; intro ws hs
            simp only [Nat.zero_add, Nat.add_zero, Nat.reduceAdd, Int.reduceToNat, Nat.reduceMul, List.set_cons_zero, List.set_cons_succ, List.setIfInBounds_toArray] at hs
            try simp only [Z.putL, Nat.zero_add] at hs
            refine Z.tk (Dn := fun _ => true) (i := 7) (fun _ => ⟨_, hs, by first | (simp; done) | exact fun e he => List.mem_append_right _ he⟩) ?_
            refine Z.tb [8] (by kernel_rfl) rfl ⟨_, hs, by first | (simp; done) | exact fun e he => List.mem_append_right _ he⟩ rfl ?_
            refine Z.td (by rfl) (by kernel_rfl) ?_
            refine Z.only [2, 3] rfl ?_
            refine Z.nthen ?_
            refine Z.ret ?_
            -- ret#1
            refine Z.out2 (by exact ⟨⟨_, rfl, Z.rvcA hs Try.isAgg30 (by first | ((repeat (first | exact List.mem_cons_self | refine List.mem_cons_of_mem _ ?_ | refine List.mem_append_right _ ?_)); done) | fail) (by exact Try.sizeOf30)⟩, rfl, trivial⟩) ?_
            first
            | (refine ⟨_, rfl, ?_⟩
               dsimp only
               rw [if_neg hno]
               exact ⟨rfl, hs.sub (List.nil_sublist _)⟩)
            | (refine ⟨_, rfl, ?_⟩
               dsimp only
               rw [if_pos hset]
               refine ⟨Ra, some ⟨g13, 0, none⟩, ca, n, rfl, ?_⟩
               rw [show ints .i64 (newB l).b = List.replicate n (.int .i64 0) by simp [ints, newB, hl]]
               first
               | exact hs.sel [1, 0] (by decide)
               | exact hs.sel [0, 1] (by decide)
               | exact hs.sel [1, 2] (by decide)
               | exact hs.sel [2, 1] (by decide))
          · skip
            refine Z.ZO.make1 (i0 := Try.t3) (bytes := 8) rfl rfl (by rfl) hs Try.underlying28 (by kernel_rfl) rfl rfl rfl rfl rfl rfl (by omega) (by unfold maxLen; omega) ?_
            clear hs; intro g13 w13 hs
            refine Z.tk (Dn := fun _ => true) (i := 5) (fun _ => ⟨_, hs, by first | (simp; done) | exact fun e he => List.mem_append_right _ he⟩) ?_
            refine Z.tn 2 rfl rfl (by kernel_rfl) rfl trivial ?_
            refine Z.ZO.appendG (i0 := Try.t38) (size := 5) (bytes := 40) rfl rfl (by rfl) hs Try.underlying22 (by kernel_rfl) rfl rfl rfl rfl (by decide) rfl rfl (by first | exact SX.at0 | exact SX.at1 | exact SX.at2 | exact SX.at3 | exact SX.at4 | exact SX.at5 | exact Z.at6 | exact Z.at7 | exact Z.at8 | exact Z.at9 | exact Z.at10 | exact Z.at11 | exact Z.at12) (hx.st (hs.sub (List.nil_sublist _))) (by first | rfl | assumption | (simp [ints_length]; done) | (simp [ints_length]; omega)) (by first | exact Z.ints_one | assumption | simp [Value.oneCell']) (by unfold maxLen; omega) (by omega) ?_
            clear hs; intro v10 w10 hs
            simp only [List.set_cons_zero, List.set_cons_succ] at hs
            refine Z.tk (Dn := fun _ => true) (i := 2) (fun _ => ⟨_, hs, by first | (simp; done) | exact fun e he => List.mem_append_right _ he⟩) ?_
            simp only [Nat.zero_add, List.nil_append] at hs
            have hq : ∃ Ra ca, v10 = .slice Ra n ca := by
              first
              | (obtain ⟨Ra, ca, h, -⟩ := SX.row_slv hs (j := 1) rfl
                 exact ⟨Ra, ca, h⟩)
              | (obtain ⟨Ra, ca, h, -⟩ := SX.row_slv hs (j := 0) rfl
                 exact ⟨Ra, ca, h⟩)
            obtain ⟨Ra, ca, rfl⟩ := hq
            refine Z.t 6 rfl rfl rfl (by rfl) (by kernel_rfl) ⟨_, hs, by first | (simp; done) | exact fun e he => List.mem_append_right _ he⟩ (Z.Yd.buildL [(0, 1), (1, 1), (2, 1)] [.slice none 0 0, .slice none 0 0, .int .i64 0] rfl rfl (by intro w; kernel_rfl)) ?_
            refine Z.tn 7 rfl rfl (by kernel_rfl) rfl trivial ?_
            first | refine Z.ZO.storeA rfl rfl hs rfl rfl (by kernel_rfl) (by first | (simp [Value.oneCell']; done) | (refine Z.all_one ?_; assumption)) (by first | exact SX.at0 | exact SX.at1 | exact SX.at2 | exact SX.at3 | exact SX.at4 | exact SX.at5 | exact Z.at6 | exact Z.at7 | exact Z.at8 | exact Z.at9 | exact Z.at10 | exact Z.at11 | exact Z.at12) (by rfl) ?_ | refine Z.ZO.storeP rfl rfl hs rfl rfl (by kernel_rfl) (by first | (simp [Value.oneCell']; done) | (refine Z.all_one ?_; assumption)) (by first | exact SX.at0 | exact SX.at1 | exact SX.at2 | exact SX.at3 | exact SX.at4 | exact SX.at5 | exact Z.at6 | exact Z.at7 | exact Z.at8 | exact Z.at9 | exact Z.at10 | exact Z.at11 | exact Z.at12) (by first | decide | (simp; done) | (simp; omega)) ?_ | refine Z.ZO.storePR rfl rfl hs rfl rfl (by kernel_rfl) (by first | (simp [Value.oneCell']; done) | (refine Z.all_one ?_; assumption)) (by first | exact SX.at0 | exact SX.at1 | exact SX.at2 | exact SX.at3 | exact SX.at4 | exact SX.at5 | exact Z.at6 | exact Z.at7 | exact Z.at8 | exact Z.at9 | exact Z.at10 | exact Z.at11 | exact Z.at12) (by first | decide | (simp; done) | (simp; omega)) ?_
            clear hs; intro ws hs
            simp only [Nat.zero_add, Nat.add_zero, Nat.reduceAdd, Int.reduceToNat, Nat.reduceMul, List.set_cons_zero, List.set_cons_succ, List.setIfInBounds_toArray] at hs
            try simp only [Z.putL, Nat.zero_add] at hs
            refine Z.tk (Dn := fun _ => true) (i := 7) (fun _ => ⟨_, hs, by first | (simp; done) | exact fun e he => List.mem_append_right _ he⟩) ?_
            refine Z.tb [8] (by kernel_rfl) rfl ⟨_, hs, by first | (simp; done) | exact fun e he => List.mem_append_right _ he⟩ rfl ?_
            refine Z.td (by rfl) (by kernel_rfl) ?_
            refine Z.only [2, 3] rfl ?_
            refine Z.nthen ?_
            refine Z.ret ?_
            -- ret#2
            refine Z.out2 (by exact ⟨⟨_, rfl, Z.rvcA hs Try.isAgg30 (by first | ((repeat (first | exact List.mem_cons_self | refine List.mem_cons_of_mem _ ?_ | refine List.mem_append_right _ ?_)); done) | fail) (by exact Try.sizeOf30)⟩, rfl, trivial⟩) ?_
            first
            | (refine ⟨_, rfl, ?_⟩
               dsimp only
               rw [if_neg hno]
               exact ⟨rfl, hs.sub (List.nil_sublist _)⟩)
            | (refine ⟨_, rfl, ?_⟩
               dsimp only
               rw [if_pos hset]
               refine ⟨Ra, some ⟨g13, 0, none⟩, ca, n, rfl, ?_⟩
               rw [show ints .i64 (newB l).b = List.replicate n (.int .i64 0) by simp [ints, newB, hl]]
               first
               | exact hs.sel [1, 0] (by decide)
               | exact hs.sel [0, 1] (by decide)
               | exact hs.sel [1, 2] (by decide)
               | exact hs.sel [2, 1] (by decide))
        · skip
          refine Z.ZO.make1 (i0 := Try.t3) (bytes := 8) rfl rfl (by rfl) hs Try.underlying28 (by kernel_rfl) rfl rfl rfl rfl rfl rfl (by omega) (by unfold maxLen; omega) ?_
          clear hs; intro g13 w13 hs
          refine Z.tk (Dn := fun _ => true) (i := 5) (fun _ => ⟨_, hs, by first | (simp; done) | exact fun e he => List.mem_append_right _ he⟩) ?_
          refine Z.tn 0 rfl rfl (by kernel_rfl) rfl trivial ?_
          refine Z.ZO.empty rfl rfl (by rfl) Try.underlying22 Try.sizeOf38 hs ?_
          clear hs; intro g8 w8 hs
          refine Z.tk (Dn := fun _ => true) (i := 0) (fun _ => ⟨_, hs, by first | (simp; done) | exact fun e he => List.mem_append_right _ he⟩) ?_
          refine Z.tn 2 rfl rfl (by kernel_rfl) rfl trivial ?_
          refine Z.ZO.appendG (i0 := Try.t38) (size := 5) (bytes := 40) rfl rfl (by rfl) hs Try.underlying22 (by kernel_rfl) rfl rfl rfl rfl (by decide) rfl rfl (by first | exact SX.at0 | exact SX.at1 | exact SX.at2 | exact SX.at3 | exact SX.at4 | exact SX.at5 | exact Z.at6 | exact Z.at7 | exact Z.at8 | exact Z.at9 | exact Z.at10 | exact Z.at11 | exact Z.at12) (hx.st (hs.sub (List.nil_sublist _))) (by first | rfl | assumption | (simp [ints_length]; done) | (simp [ints_length]; omega)) (by first | exact Z.ints_one | assumption | simp [Value.oneCell']) (by unfold maxLen; omega) (by omega) ?_
          clear hs; intro v10 w10 hs
          simp only [List.set_cons_zero, List.set_cons_succ] at hs
          refine Z.tk (Dn := fun _ => true) (i := 2) (fun _ => ⟨_, hs, by first | (simp; done) | exact fun e he => List.mem_append_right _ he⟩) ?_
          simp only [Nat.zero_add, List.nil_append] at hs
          have hq : ∃ Ra ca, v10 = .slice Ra n ca := by
            first
            | (obtain ⟨Ra, ca, h, -⟩ := SX.row_slv hs (j := 1) rfl
               exact ⟨Ra, ca, h⟩)
            | (obtain ⟨Ra, ca, h, -⟩ := SX.row_slv hs (j := 0) rfl
               exact ⟨Ra, ca, h⟩)
          obtain ⟨Ra, ca, rfl⟩ := hq
          refine Z.t 6 rfl rfl rfl (by rfl) (by kernel_rfl) ⟨_, hs, by first | (simp; done) | exact fun e he => List.mem_append_right _ he⟩ (Z.Yd.buildL [(0, 1), (1, 1), (2, 1)] [.slice none 0 0, .slice none 0 0, .int .i64 0] rfl rfl (by intro w; kernel_rfl)) ?_
          refine Z.tn 7 rfl rfl (by kernel_rfl) rfl trivial ?_
          first | refine Z.ZO.storeA rfl rfl hs rfl rfl (by kernel_rfl) (by first | (simp [Value.oneCell']; done) | (refine Z.all_one ?_; assumption)) (by first | exact SX.at0 | exact SX.at1 | exact SX.at2 | exact SX.at3 | exact SX.at4 | exact SX.at5 | exact Z.at6 | exact Z.at7 | exact Z.at8 | exact Z.at9 | exact Z.at10 | exact Z.at11 | exact Z.at12) (by rfl) ?_ | refine Z.ZO.storeP rfl rfl hs rfl rfl (by kernel_rfl) (by first | (simp [Value.oneCell']; done) | (refine Z.all_one ?_; assumption)) (by first | exact SX.at0 | exact SX.at1 | exact SX.at2 | exact SX.at3 | exact SX.at4 | exact SX.at5 | exact Z.at6 | exact Z.at7 | exact Z.at8 | exact Z.at9 | exact Z.at10 | exact Z.at11 | exact Z.at12) (by first | decide | (simp; done) | (simp; omega)) ?_ | refine Z.ZO.storePR rfl rfl hs rfl rfl (by kernel_rfl) (by first | (simp [Value.oneCell']; done) | (refine Z.all_one ?_; assumption)) (by first | exact SX.at0 | exact SX.at1 | exact SX.at2 | exact SX.at3 | exact SX.at4 | exact SX.at5 | exact Z.at6 | exact Z.at7 | exact Z.at8 | exact Z.at9 | exact Z.at10 | exact Z.at11 | exact Z.at12) (by first | decide | (simp; done) | (simp; omega)) ?_
          clear hs; intro ws hs
          simp only [Nat.zero_add, Nat.add_zero, Nat.reduceAdd, Int.reduceToNat, Nat.reduceMul, List.set_cons_zero, List.set_cons_succ, List.setIfInBounds_toArray] at hs
          try simp only [Z.putL, Nat.zero_add] at hs
          refine Z.tk (Dn := fun _ => true) (i := 7) (fun _ => ⟨_, hs, by first | (simp; done) | exact fun e he => List.mem_append_right _ he⟩) ?_
          refine Z.tb [8] (by kernel_rfl) rfl ⟨_, hs, by first | (simp; done) | exact fun e he => List.mem_append_right _ he⟩ rfl ?_
          refine Z.td (by rfl) (by kernel_rfl) ?_
          refine Z.only [2, 3] rfl ?_
          refine Z.nthen ?_
          refine Z.ret ?_
          -- ret#3
          refine Z.out2 (by exact ⟨⟨_, rfl, Z.rvcA hs Try.isAgg30 (by first | ((repeat (first | exact List.mem_cons_self | refine List.mem_cons_of_mem _ ?_ | refine List.mem_append_right _ ?_)); done) | fail) (by exact Try.sizeOf30)⟩, rfl, trivial⟩) ?_
          first
          | (refine ⟨_, rfl, ?_⟩
             dsimp only
             rw [if_neg hno]
             exact ⟨rfl, hs.sub (List.nil_sublist _)⟩)
          | (refine ⟨_, rfl, ?_⟩
             dsimp only
             rw [if_pos hset]
             refine ⟨Ra, some ⟨g13, 0, none⟩, ca, n, rfl, ?_⟩
             rw [show ints .i64 (newB l).b = List.replicate n (.int .i64 0) by simp [ints, newB, hl]]
             first
             | exact hs.sel [1, 0] (by decide)
             | exact hs.sel [0, 1] (by decide)
             | exact hs.sel [1, 2] (by decide)
             | exact hs.sel [2, 1] (by decide))
        )
theorem flen_le {α β : Type} {f : α → List β} {c : Nat} : ∀ {l : List α}, (∀ x ∈ l, (f x).length ≤ c) → (l.flatMap f).length ≤ l.length * c
  | [], _ => by simp
  | x :: l, h => by
    have h1 := h x (by simp)
    have h2 := flen_le (f := f) (l := l) fun y hy => h y (by simp [hy])
    rw [List.flatMap_cons, List.length_append, List.length_cons, Nat.succ_mul]
    omega
theorem ordP_le (l : List LgV) (p d : Int) : (ordP l p d).length ≤ l.length := by
  have := List.length_filter_le (fun i => decide (l[i]!.pr = p ∧ l[i]!.id = d)) (List.range l.length)
  simpa [ordP] using this
theorem ordQ_le (l : List LgV) (p : Int) : (ordQ l p).length ≤ 10 * l.length := by
  have := flen_le (f := fun (d : Nat) => ordP l p ((d : Int) + 1)) (c := l.length) (l := List.range 10) fun d _ => ordP_le l p _
  simpa [ordQ] using this
/-- the order so far -/
def ordT (l : List LgV) (p : Nat) : List Nat := (List.range p).flatMap fun (p : Nat) => ordQ l ((p : Int) + 1)
def ordU (l : List LgV) (p d : Nat) : List Nat := ordT l p ++ (List.range d).flatMap fun (d : Nat) => ordP l ((p : Int) + 1) ((d : Int) + 1)
def ordV (l : List LgV) (p d i : Nat) : List Nat := ordU l p d ++ (List.range i).filter fun i => decide (l[i]!.pr = (p : Int) + 1 ∧ l[i]!.id = (d : Int) + 1)
theorem ordT_le (l : List LgV) (p : Nat) : (ordT l p).length ≤ p * (10 * l.length) := by
  have := flen_le (f := fun (p : Nat) => ordQ l ((p : Int) + 1)) (c := 10 * l.length) (l := List.range p) fun d _ => ordQ_le l _
  simpa [ordT] using this
theorem ordU_le (l : List LgV) (p d : Nat) : (ordU l p d).length ≤ p * (10 * l.length) + d * l.length := by
  have h1 := ordT_le l p
  have h2 := flen_le (f := fun (d : Nat) => ordP l ((p : Int) + 1) ((d : Int) + 1)) (c := l.length) (l := List.range d) fun d _ => ordP_le l _ _
  rw [List.length_range] at h2
  simp only [ordU, List.length_append]
  omega
theorem ordV_le (l : List LgV) (p d i : Nat) : (ordV l p d i).length ≤ p * (10 * l.length) + d * l.length + i := by
  have h1 := ordU_le l p d
  have h2 := List.length_filter_le (fun i => decide (l[i]!.pr = (p : Int) + 1 ∧ l[i]!.id = (d : Int) + 1)) (List.range i)
  rw [List.length_range] at h2
  simp only [ordV, List.length_append]
  omega
theorem ordV_step (l : List LgV) (p d i : Nat) : ordV l p d (i + 1) = ordV l p d i ++ if l[i]!.pr = (p : Int) + 1 ∧ l[i]!.id = (d : Int) + 1 then [i] else [] := by
  simp only [ordV]
  rw [List.range_succ, List.filter_append, List.append_assoc]
  congr 2
  by_cases h : l[i]!.pr = (p : Int) + 1 ∧ l[i]!.id = (d : Int) + 1
  · rw [if_pos h, List.filter_cons, if_pos (decide_eq_true h)]; rfl
  · rw [if_neg h, List.filter_cons, if_neg (by simpa using h)]; rfl
theorem ordV_end (l : List LgV) (p d : Nat) : ordV l p d l.length = ordU l p (d + 1) := by
  simp only [ordV, ordU]
  rw [List.range_succ, List.flatMap_append, List.append_assoc]
  simp [ordP]
theorem ordU_end (l : List LgV) (p : Nat) : ordU l p 10 = ordT l (p + 1) := by
  simp only [ordU, ordT]
  rw [List.range_succ (n := p), List.flatMap_append]
  simp [ordQ]
set_option maxHeartbeats 1000000 in
set_option maxRecDepth 100000 in
theorem rv_order (A B : Option Addr) (n c k d : Nat) (now : Int) (l : List LgV) (w : World) (hx : Sl w A (l.flatMap LgV.cells)) (hl : l.length = n) (hn : n ≤ 10) :
    Calls Try.prog 11 #[.agg #[.slice A n c, .slice B k d, .int .i64 now]] w (SX.Ret fun v w' => SX.St w [] w' [SX.Ent.row v 3 1 (ordL l).length (ints .i64 (natI (ordL l)))]) := by
  have hs := SX.St.start w
  refine Z.enter Try.func11 rfl Try.ntmps11 rfl rfl ?_
  refine Z.seq ?_
  refine Z.region ?_
  refine Z.le rfl trivial ?_
  refine Z.ZO.box rfl rfl (by rfl) rfl rfl hs ?_
  clear hs; intro g1 w1 hs
  refine Z.lb 1 rfl ?_
  refine Z.lnil ?_
  refine Z.only [1] rfl ?_
  refine Z.nthen ?_
  refine Z.seq ?_
  refine Z.region ?_
  refine Z.lb 1 rfl ?_
  refine Z.lnil ?_
  refine Z.only [1, 3] rfl ?_
  refine Z.nthen ?_
  refine Z.seq ?_
  refine Z.seq ?_
  refine Z.region ?_
  replace hs := hs.nil 3 1
  refine Z.l rfl rfl (by rfl) (Z.keepS hs) (Z.Yd.pure rfl) ?_
  refine Z.lnil ?_
  refine Z.only [1, 3, 4] rfl ?_
  refine Z.nthen ?_
  refine Z.block ?_
  refine Z.loopk (ι := Nat × Value) [1] rfl (fun x => [(3, [], x.2), (4, [], .int .i64 ((x.1 : Int) + 1))]) (fun x wr => x.1 ≤ 16 ∧ SX.St w [] wr [SX.Ent.row x.2 3 1 (ordT l x.1).length (ints .i64 (natI (ordT l x.1))), SX.Ent.blk g1 30 #[.slice A n c, .slice B k d, .int .i64 now]]) (fun x => 16 - x.1) (0, .slice none 0 0) (by refine ⟨?_, ?_, trivial⟩ <;> (first | rfl | (refine Z.lookv rfl ?_; simp; done) | (refine Z.lookv rfl ?_; simp; omega))) ⟨Nat.zero_le _, hs⟩ ?_
  clear hs
  rintro ⟨p, sv⟩ w3 ⟨hp, hs⟩
  refine Z.only [1, 3, 4] rfl ?_
  (try dsimp only at hs)
  dsimp only at hp hs
  refine Z.seq ?_
  refine Z.seq ?_
  refine Z.region ?_
  refine Z.lb 2 rfl ?_
  refine Z.lnil ?_
  refine Z.only [1, 3, 4, 8] rfl ?_
  refine Z.nthen ?_
  refine Z.cond rfl (fun hc3 => ?_) (fun hc3 => ?_)
  · first
      | (exfalso; simp at hc3 <;> omega)
      | (
        (try simp at hc3)
        have hpl : p < 16 := by omega
        have lp := ordT_le l p
        refine Z.skip ?_
        refine Z.nthen ?_
        refine Z.seq ?_
        refine Z.block ?_
        refine Z.seq ?_
        refine Z.region ?_
        refine Z.lb 1 rfl ?_
        refine Z.lnil ?_
        refine Z.only [1, 3, 4, 5] rfl ?_
        refine Z.nthen ?_
        refine Z.block ?_
        refine Z.loopk (ι := Nat × Value) [1, 4] rfl (fun x => [(3, [], x.2), (5, [], .int .i64 ((x.1 : Int) + 1))]) (fun x wr => x.1 ≤ 10 ∧ SX.St w [] wr [SX.Ent.row x.2 3 1 (ordU l p x.1).length (ints .i64 (natI (ordU l p x.1))), SX.Ent.blk g1 30 #[.slice A n c, .slice B k d, .int .i64 now]]) (fun x => 10 - x.1) (0, sv) (by refine ⟨?_, ?_, trivial⟩ <;> (first | rfl | (refine Z.lookv rfl ?_; simp; done) | (refine Z.lookv rfl ?_; simp; omega))) ⟨Nat.zero_le _, by simpa [ordU] using hs⟩ ?_
        clear hs
        rintro ⟨q, su⟩ w6 ⟨hq, hs⟩
        refine Z.only [1, 3, 4, 5] rfl ?_
        (try dsimp only at hs)
        dsimp only at hq hs
        refine Z.seq ?_
        refine Z.seq ?_
        refine Z.region ?_
        refine Z.lb 2 rfl ?_
        refine Z.lnil ?_
        refine Z.only [1, 3, 4, 5, 12] rfl ?_
        refine Z.nthen ?_
        refine Z.cond rfl (fun hc6 => ?_) (fun hc6 => ?_)
        · first
            | (exfalso; simp at hc6 <;> omega)
            | (
              (try simp at hc6)
              have hql : q < 10 := by omega
              have lq := ordU_le l p q
              refine Z.skip ?_
              refine Z.nthen ?_
              refine Z.seq ?_
              refine Z.block ?_
              refine Z.seq ?_
              refine Z.region ?_
              refine Z.lb 1 rfl ?_
              refine Z.lnil ?_
              refine Z.only [1, 3, 4, 5, 6] rfl ?_
              refine Z.nthen ?_
              refine Z.block ?_
              refine Z.loopk (ι := Nat × Value) [1, 4, 5] rfl (fun x => [(3, [], x.2), (6, [], .int .i64 (x.1 : Int))]) (fun x wr => x.1 ≤ n ∧ SX.St w [] wr [SX.Ent.row x.2 3 1 (ordV l p q x.1).length (ints .i64 (natI (ordV l p q x.1))), SX.Ent.blk g1 30 #[.slice A n c, .slice B k d, .int .i64 now]]) (fun x => n - x.1) (0, su) (by refine ⟨?_, ?_, trivial⟩ <;> (first | rfl | (refine Z.lookv rfl ?_; simp; done) | (refine Z.lookv rfl ?_; simp; omega))) ⟨Nat.zero_le _, by simpa [ordV] using hs⟩ ?_
              clear hs
              rintro ⟨i, sx⟩ w9 ⟨hi, hs⟩
              refine Z.only [1, 3, 4, 5, 6] rfl ?_
              (try dsimp only at hs)
              dsimp only at hi hs
              refine Z.seq ?_
              refine Z.seq ?_
              refine Z.region ?_
              refine Z.lb 1 rfl ?_
              refine Z.l rfl rfl (by rfl) (Z.keepS hs) (Z.Yd.fieldA (m := 0) rfl (by kernel_rfl)) ?_
              refine Z.l rfl rfl (by rfl) (Z.keepS hs) (by first | exact Z.Yd.load rfl Try.isAgg22 (fun _ => Z.cellB (by first | ((repeat (first | exact List.mem_cons_self | refine List.mem_cons_of_mem _ ?_ | refine List.mem_append_right _ ?_)); done) | fail) rfl) | exact Z.Yd.load rfl Try.isAgg22 (fun _ => Z.cellO (by assumption) (by simp) (by assumption)) | fail "load 9.2") ?_
              refine Z.l rfl rfl (by rfl) (Z.keepS hs) (Z.Yd.lenS rfl Try.underlying22) ?_
              refine Z.lb 1 rfl ?_
              refine Z.lnil ?_
              refine Z.only [1, 3, 4, 5, 6, 19] rfl ?_
              refine Z.nthen ?_
              refine Z.cond rfl (fun hc9 => ?_) (fun hc9 => ?_)
              · first
                  | (exfalso; simp at hc9 <;> omega)
                  | (
                    (try simp at hc9)
                    have hil : i < l.length := by omega
                    have hel : l[i]? = some l[i]! := by rw [getElem!_pos l i hil]; exact List.getElem?_eq_getElem hil
                    have lv := ordV_le l p q i
                    have hst := ordV_step l p q i
                    have hb1 : p * (10 * l.length) ≤ 15 * (10 * l.length) := Nat.mul_le_mul_right _ (by omega)
                    have hb2 : q * l.length ≤ 9 * l.length := Nat.mul_le_mul_right _ (by omega)
                    generalize l[i]! = xi at hel hst
                    obtain ⟨bb, off, rfl, hb0, hx2⟩ := Z.Sl.some hx (by rw [flat_len lg_len]; omega)
                    refine Z.skip ?_
                    refine Z.nthen ?_
                    refine Z.seq ?_
                    refine Z.block ?_
                    refine Z.seq ?_
                    refine Z.region ?_
                    refine Z.l rfl rfl (by rfl) (Z.keepS hs) (Z.Yd.fieldA (m := 0) rfl (by kernel_rfl)) ?_
                    refine Z.l rfl rfl (by rfl) (Z.keepS hs) (by first | exact Z.Yd.load rfl Try.isAgg22 (fun _ => Z.cellB (by first | ((repeat (first | exact List.mem_cons_self | refine List.mem_cons_of_mem _ ?_ | refine List.mem_append_right _ ?_)); done) | fail) rfl) | exact Z.Yd.load rfl Try.isAgg22 (fun _ => Z.cellO (by assumption) (by simp) (by assumption)) | fail "load 11.1") ?_
                    refine Z.lb 1 rfl ?_
                    refine Z.l rfl rfl (by rfl) (Z.keepS hs) (Z.Yd.elem rfl rfl Try.underlying22 Try.sizeOf38 (fun hG => ⟨(by first | omega | (have hG' := Z.gh rfl hG; simp at hG'; omega)), (by first | omega | (have hG' := Z.gh rfl hG; simp at hG'; omega))⟩)) ?_
                    refine Z.l rfl rfl (by rfl) (Z.keepS hs) (Z.Yd.fieldA (m := 1) rfl (by kernel_rfl)) ?_
                    refine Z.l rfl rfl (by rfl) (Z.keepS hs) (Z.Yd.load rfl Try.isAgg3 (fun _ => Z.cellXf hx2.sx lg_len hel rfl)) ?_
                    refine Z.lb 3 rfl ?_
                    refine Z.l rfl rfl (by rfl) (Z.keepS hs) (Z.Yd.fieldA (m := 0) rfl (by kernel_rfl)) ?_
                    refine Z.l rfl rfl (by rfl) (Z.keepS hs) (by first | exact Z.Yd.load rfl Try.isAgg22 (fun _ => Z.cellB (by first | ((repeat (first | exact List.mem_cons_self | refine List.mem_cons_of_mem _ ?_ | refine List.mem_append_right _ ?_)); done) | fail) rfl) | exact Z.Yd.load rfl Try.isAgg22 (fun _ => Z.cellO (by assumption) (by simp) (by assumption)) | fail "load 11.10") ?_
                    refine Z.lb 1 rfl ?_
                    refine Z.l rfl rfl (by rfl) (Z.keepS hs) (Z.Yd.elem rfl rfl Try.underlying22 Try.sizeOf38 (fun hG => ⟨(by first | omega | (have hG' := Z.gh rfl hG; simp at hG'; omega)), (by first | omega | (have hG' := Z.gh rfl hG; simp at hG'; omega))⟩)) ?_
                    refine Z.l rfl rfl (by rfl) (Z.keepS hs) (Z.Yd.fieldA (m := 0) rfl (by kernel_rfl)) ?_
                    refine Z.l rfl rfl (by rfl) (Z.keepS hs) (Z.Yd.load rfl Try.isAgg3 (fun _ => Z.cellXf hx2.sx lg_len hel rfl)) ?_
                    refine Z.lb 3 rfl ?_
                    refine Z.lnil ?_
                    refine Z.only [1, 3, 4, 5, 6, 39] rfl ?_
                    refine Z.nthen ?_
                    refine Z.cond rfl (fun hc11 => ?_) (fun hc11 => ?_)
                    · first
                        | (exfalso; simp at hc11 <;> omega)
                        | (
                          (try simp at hc11)
                          have hpq : xi.pr = (p : Int) + 1 ∧ xi.id = (q : Int) + 1 := by assumption
                          rw [if_pos hpq] at hst
                          refine Z.region ?_
                          refine Z.lb 2 rfl ?_
                          refine Z.le rfl trivial ?_
                          refine Z.ZO.litL (T' := 3) [(0, 1)] [.int .i64 0] rfl rfl (by rfl) rfl rfl (by intro W; kernel_rfl) hs ?_
                          clear hs; intro g42 w42 hs
                          refine Z.le rfl trivial ?_
                          refine Z.ZO.append (i0 := Try.t3) (size := 1) (bytes := 8) rfl rfl (by rfl) hs Try.underlying28 (by kernel_rfl) rfl rfl rfl rfl (by decide) rfl rfl (by first | exact SX.at0 | exact SX.at1 | exact SX.at2 | exact SX.at3 | exact SX.at4 | exact SX.at5 | exact Z.at6 | exact Z.at7 | exact Z.at8 | exact Z.at9 | exact Z.at10 | exact Z.at11 | exact Z.at12) (by first | exact SX.at0 | exact SX.at1 | exact SX.at2 | exact SX.at3 | exact SX.at4 | exact SX.at5 | exact Z.at6 | exact Z.at7 | exact Z.at8 | exact Z.at9 | exact Z.at10 | exact Z.at11 | exact Z.at12) (by first | rfl | simp) (by simp [Value.oneCell']) (by decide) (by unfold maxLen; omega) (by omega) ?_
                          clear hs; intro g43 cap43 w43 hs
                          simp only [List.set_cons_zero, List.set_cons_succ, List.eraseIdx_cons_zero, List.eraseIdx_cons_succ] at hs
                          refine Z.lb 1 rfl ?_
                          refine Z.lnil ?_
                          refine Z.only [1, 3, 4, 5, 6] rfl ?_
                          refine Z.nblock ?_
                          refine Z.nthen ?_
                          refine Z.region ?_
                          refine Z.lb 1 rfl ?_
                          refine Z.l rfl rfl (by rfl) (Z.keepS hs) (Z.Yd.add rfl rfl (fun hG => Z.wi64 (by first | omega | (have hG' := Z.gh rfl hG; simp at hG'; omega)))) ?_
                          refine Z.lb 1 rfl ?_
                          refine Z.lnil ?_
                          refine Z.only [1, 3, 4, 5, 6] rfl ?_
                          refine Z.nthen ?_
                          first
                          | exact Z.again (i + 1, sx) (by refine ⟨?_, ?_, ?_, ?_, ?_, trivial⟩ <;> (first | rfl | (refine Z.lookv rfl ?_; simp; done) | (refine Z.lookv rfl ?_; simp; omega))) ⟨by simp only; omega, by simp only; rw [hst]; exact hs⟩ (by simp only; omega)
                          | exact Z.again (i + 1, _) (by refine ⟨?_, ?_, ?_, ?_, ?_, trivial⟩ <;> (first | rfl | (refine Z.lookv rfl ?_; simp; done) | (refine Z.lookv rfl ?_; simp; omega))) ⟨by simp only; omega, by simp only; rw [hst]; simpa [natI, ints] using hs⟩ (by simp only; omega)
                          )
                    · first
                        | (exfalso; simp at hc11 <;> omega)
                        | (
                          (try simp at hc11)
                          have hpq : ¬ (xi.pr = (p : Int) + 1 ∧ xi.id = (q : Int) + 1) := by simp_all
                          rw [if_neg hpq, List.append_nil] at hst
                          refine Z.skip ?_
                          refine Z.nblock ?_
                          refine Z.nthen ?_
                          refine Z.region ?_
                          refine Z.lb 1 rfl ?_
                          refine Z.l rfl rfl (by rfl) (Z.keepS hs) (Z.Yd.add rfl rfl (fun hG => Z.wi64 (by first | omega | (have hG' := Z.gh rfl hG; simp at hG'; omega)))) ?_
                          refine Z.lb 1 rfl ?_
                          refine Z.lnil ?_
                          refine Z.only [1, 3, 4, 5, 6] rfl ?_
                          refine Z.nthen ?_
                          first
                          | exact Z.again (i + 1, sx) (by refine ⟨?_, ?_, ?_, ?_, ?_, trivial⟩ <;> (first | rfl | (refine Z.lookv rfl ?_; simp; done) | (refine Z.lookv rfl ?_; simp; omega))) ⟨by simp only; omega, by simp only; rw [hst]; exact hs⟩ (by simp only; omega)
                          | exact Z.again (i + 1, _) (by refine ⟨?_, ?_, ?_, ?_, ?_, trivial⟩ <;> (first | rfl | (refine Z.lookv rfl ?_; simp; done) | (refine Z.lookv rfl ?_; simp; omega))) ⟨by simp only; omega, by simp only; rw [hst]; simpa [natI, ints] using hs⟩ (by simp only; omega)
                          )
                    )
              · first
                  | (exfalso; simp at hc9 <;> omega)
                  | (
                    (try simp at hc9)
                    refine Z.exit ?_
                    refine Z.xthen ?_
                    refine Z.xthen ?_
                    refine Z.xblock ?_
                    refine Z.nblock ?_
                    refine Z.nthen ?_
                    refine Z.region ?_
                    refine Z.lb 1 rfl ?_
                    refine Z.l rfl rfl (by rfl) (Z.keepS hs) (Z.Yd.add rfl rfl (fun hG => Z.wi64 (by first | omega | (have hG' := Z.gh rfl hG; simp at hG'; omega)))) ?_
                    refine Z.lb 1 rfl ?_
                    refine Z.lnil ?_
                    refine Z.only [1, 3, 4, 5] rfl ?_
                    refine Z.nthen ?_
                    obtain rfl : i = l.length := by omega
                    rw [ordV_end] at hs
                    exact Z.again (q + 1, sx) (by refine ⟨?_, ?_, ?_, ?_, trivial⟩ <;> (first | rfl | (refine Z.lookv rfl ?_; simp; done) | (refine Z.lookv rfl ?_; simp; omega))) ⟨by simp only; omega, hs⟩ (by simp only; omega)
                    )
              )
        · first
            | (exfalso; simp at hc6 <;> omega)
            | (
              (try simp at hc6)
              refine Z.exit ?_
              refine Z.xthen ?_
              refine Z.xthen ?_
              refine Z.xblock ?_
              refine Z.nblock ?_
              refine Z.nthen ?_
              refine Z.region ?_
              refine Z.lb 1 rfl ?_
              refine Z.l rfl rfl (by rfl) (Z.keepS hs) (Z.Yd.add rfl rfl (fun hG => Z.wi64 (by first | omega | (have hG' := Z.gh rfl hG; simp at hG'; omega)))) ?_
              refine Z.lb 1 rfl ?_
              refine Z.lnil ?_
              refine Z.only [1, 3, 4] rfl ?_
              refine Z.nthen ?_
              obtain rfl : q = 10 := by omega
              rw [ordU_end] at hs
              exact Z.again (p + 1, su) (by refine ⟨?_, ?_, ?_, trivial⟩ <;> (first | rfl | (refine Z.lookv rfl ?_; simp; done) | (refine Z.lookv rfl ?_; simp; omega))) ⟨by simp only; omega, hs⟩ (by simp only; omega)
              )
        )
  · first
      | (exfalso; simp at hc3 <;> omega)
      | (
        (try simp at hc3)
        refine Z.exit ?_
        refine Z.xthen ?_
        refine Z.xthen ?_
        refine Z.xblock ?_
        refine Z.nthen ?_
        refine Z.seq ?_
        refine Z.region ?_
        refine Z.lb 2 rfl ?_
        refine Z.lnil ?_
        refine Z.only [2] rfl ?_
        refine Z.nthen ?_
        refine Z.ret ?_
        -- ret#0
        refine Z.out1 (by exact ⟨rfl, trivial⟩) ?_
        obtain rfl : p = 16 := by omega
        exact ⟨_, rfl, hs.sel [0] (by decide)⟩
        )
end Go.Proofs.Ythdhobnkclddhaa

/- Buckets: the document's Tick, Divide, Level, Same. -/
namespace Go.Proofs.Ythdhobnkclddhaa
open Go.RowKit
set_option linter.unusedSimpArgs false
set_option linter.unusedVariables false
--newlaws

theorem rv_level (A B : Option Addr) (c d : Nat) (m : BkV) (id : Int) (w : World) (hA : Sl w A (m.l.flatMap LgV.cells)) (hB : Sl w B (ints .i64 m.b)) (hm : m.ok) :
    Calls Try.prog 44 #[.agg #[.slice A m.l.length c, .slice B m.l.length d, .int .i64 m.now], .int .i64 id] w (SX.Ret fun v w' => v = .tuple #[.int .i64 (lvV m id).1, .bool (lvV m id).2] ∧ SX.St w [] w' []) := by
  have hs := SX.St.start w
  have hpos := hm.pos
  have hbl := hm.len
  obtain ⟨bb, off, rfl, hb0, hx2⟩ := Z.Sl.some hA (by rw [flat_len lg_len]; omega)
  obtain ⟨bo, offo, rfl, hbo0, hxo⟩ := Z.Sl.some hB (by rw [ints_length]; omega)
  refine Z.enter Try.func44 rfl Try.ntmps44 rfl rfl ?_
  refine Z.seq ?_
  refine Z.region ?_
  refine Z.le rfl trivial ?_
  refine Z.ZO.box rfl rfl (by rfl) rfl rfl hs ?_
  clear hs; intro g2 w2 hs
  refine Z.lb 2 rfl ?_
  refine Z.lnil ?_
  refine Z.only [1, 2] rfl ?_
  refine Z.nthen ?_
  refine Z.seq ?_
  refine Z.seq ?_
  refine Z.region ?_
  refine Z.lb 1 rfl ?_
  refine Z.lnil ?_
  refine Z.only [1, 2, 6] rfl ?_
  refine Z.nthen ?_
  refine Z.block ?_
  refine Z.loopk (ι := Nat) [1, 2] rfl (fun k => [(6, [], .int .i64 (k : Int))]) (fun k wr => (k ≤ m.l.length ∧ ∀ x ∈ m.l.take k, decide (x.id = id) = false) ∧ SX.St w [] wr [SX.Ent.blk g2 30 #[.slice (some ⟨bb, off, none⟩) m.l.length c, .slice (some ⟨bo, offo, none⟩) m.l.length d, .int .i64 m.now]]) (fun k => m.l.length - k) 0 (by refine ⟨?_, trivial⟩ <;> (first | rfl | (refine Z.lookv rfl ?_; simp; done) | (refine Z.lookv rfl ?_; simp; omega))) ⟨⟨by omega, by simp⟩, hs⟩ ?_
  clear hs
  rintro k w4 ⟨⟨hk, h0⟩, hs⟩
  refine Z.only [1, 2, 6] rfl ?_
  refine Z.seq ?_
  refine Z.seq ?_
  refine Z.region ?_
  refine Z.lb 1 rfl ?_
  refine Z.l rfl rfl (by rfl) (Z.keepS hs) (Z.Yd.fieldA (m := 0) rfl (by kernel_rfl)) ?_
  refine Z.l rfl rfl (by rfl) (Z.keepS hs) (by first | exact Z.Yd.load rfl Try.isAgg22 (fun _ => Z.cellB (by first | ((repeat (first | exact List.mem_cons_self | refine List.mem_cons_of_mem _ ?_ | refine List.mem_append_right _ ?_)); done) | fail) rfl) | exact Z.Yd.load rfl Try.isAgg22 (fun _ => Z.cellO (by assumption) (by simp) (by assumption)) | fail "load 2.2") ?_
  refine Z.l rfl rfl (by rfl) (Z.keepS hs) (Z.Yd.lenS rfl Try.underlying22) ?_
  refine Z.lb 1 rfl ?_
  refine Z.lnil ?_
  refine Z.only [1, 2, 6, 11] rfl ?_
  refine Z.nthen ?_
  refine Z.cond rfl (fun hc2 => ?_) (fun hc2 => ?_)
  · first
      | (exfalso; simp at hc2 <;> omega)
      | (
        (try simp at hc2)
        have hlt : k < m.l.length := by omega
        have hel : m.l[k]? = some m.l[k]! := by rw [getElem!_pos m.l k hlt]; exact List.getElem?_eq_getElem hlt
        refine Z.skip ?_
        refine Z.nthen ?_
        refine Z.seq ?_
        refine Z.block ?_
        refine Z.seq ?_
        refine Z.region ?_
        refine Z.l rfl rfl (by rfl) (Z.keepS hs) (Z.Yd.fieldA (m := 0) rfl (by kernel_rfl)) ?_
        refine Z.l rfl rfl (by rfl) (Z.keepS hs) (by first | exact Z.Yd.load rfl Try.isAgg22 (fun _ => Z.cellB (by first | ((repeat (first | exact List.mem_cons_self | refine List.mem_cons_of_mem _ ?_ | refine List.mem_append_right _ ?_)); done) | fail) rfl) | exact Z.Yd.load rfl Try.isAgg22 (fun _ => Z.cellO (by assumption) (by simp) (by assumption)) | fail "load 4.1") ?_
        refine Z.lb 1 rfl ?_
        refine Z.l rfl rfl (by rfl) (Z.keepS hs) (Z.Yd.elem rfl rfl Try.underlying22 Try.sizeOf38 (fun hG => ⟨(by first | omega | (have hG' := Z.gh rfl hG; simp at hG'; omega)), (by first | omega | (have hG' := Z.gh rfl hG; simp at hG'; omega))⟩)) ?_
        refine Z.l rfl rfl (by rfl) (Z.keepS hs) (Z.Yd.fieldA (m := 0) rfl (by kernel_rfl)) ?_
        refine Z.l rfl rfl (by rfl) (Z.keepS hs) (Z.Yd.load rfl Try.isAgg3 (fun _ => Z.cellXf hx2.sx lg_len hel rfl)) ?_
        refine Z.lb 2 rfl ?_
        refine Z.lnil ?_
        refine Z.only [1, 2, 6, 21] rfl ?_
        refine Z.nthen ?_
        refine Z.cond rfl (fun hc4 => ?_) (fun hc4 => ?_)
        · first
            | (exfalso; simp at hc4 <;> omega)
            | (
              (try simp at hc4)
              have hid : m.l[k]!.id = id := by simpa using hc4
              refine Z.seq ?_
              refine Z.region ?_
              refine Z.l rfl rfl (by rfl) (Z.keepS hs) (Z.Yd.fieldA (m := 1) rfl (by kernel_rfl)) ?_
              refine Z.l rfl rfl (by rfl) (Z.keepS hs) (by first | exact Z.Yd.load rfl Try.isAgg28 (fun _ => Z.cellB (by first | ((repeat (first | exact List.mem_cons_self | refine List.mem_cons_of_mem _ ?_ | refine List.mem_append_right _ ?_)); done) | fail) rfl) | exact Z.Yd.load rfl Try.isAgg28 (fun _ => Z.cellO (by assumption) (by simp) (by assumption)) | fail "load 5.1") ?_
              refine Z.lb 1 rfl ?_
              refine Z.l rfl rfl (by rfl) (Z.keepS hs) (Z.Yd.elem rfl rfl Try.underlying28 Try.sizeOf3 (fun hG => ⟨(by first | omega | (have hG' := Z.gh rfl hG; simp at hG'; omega)), (by first | omega | (have hG' := Z.gh rfl hG; simp at hG'; omega))⟩)) ?_
              refine Z.l rfl rfl (by rfl) (Z.keepS hs) (Z.Yd.load rfl Try.isAgg3 (fun hG => Z.cellS hxo rfl (by omega) (by omega))) ?_
              refine Z.lb 2 rfl ?_
              refine Z.lnil ?_
              refine Z.only [4, 5] rfl ?_
              refine Z.nthen ?_
              refine Z.ret ?_
              repeat (first | refine Z.rthen ?_ | refine Z.rblock ?_ | refine Z.rscope ?_)
              -- ret#0
              refine Z.out2 (by exact ⟨rfl, rfl, trivial⟩) ?_
              first
              | exact ⟨_, rfl, by rw [lvV_some h0 hlt hid], hs.sub (List.nil_sublist _)⟩
              | exact ⟨_, rfl, by rw [lvV_none (by rw [List.take_of_length_le (by omega)] at h0; exact h0)], hs.sub (List.nil_sublist _)⟩
              )
        · first
            | (exfalso; simp at hc4 <;> omega)
            | (
              (try simp at hc4)
              have hid : ¬ m.l[k]!.id = id := by simpa using hc4
              refine Z.skip ?_
              refine Z.nblock ?_
              refine Z.nthen ?_
              refine Z.region ?_
              refine Z.lb 1 rfl ?_
              refine Z.l rfl rfl (by rfl) (Z.keepS hs) (Z.Yd.add rfl rfl (fun hG => Z.wi64 (by first | omega | (have hG' := Z.gh rfl hG; simp at hG'; omega)))) ?_
              refine Z.lb 1 rfl ?_
              refine Z.lnil ?_
              refine Z.only [1, 2, 6] rfl ?_
              refine Z.nthen ?_
              exact Z.again (k + 1) (by refine ⟨?_, ?_, ?_, trivial⟩ <;> (first | rfl | (refine Z.lookv rfl ?_; simp; done) | (refine Z.lookv rfl ?_; simp; omega))) ⟨⟨by omega, take_none h0 hlt hid⟩, hs⟩ (by omega)
              )
        )
  · first
      | (exfalso; simp at hc2 <;> omega)
      | (
        (try simp at hc2)
        refine Z.exit ?_
        refine Z.xthen ?_
        refine Z.xthen ?_
        refine Z.xblock ?_
        refine Z.nthen ?_
        refine Z.seq ?_
        refine Z.region ?_
        refine Z.lb 2 rfl ?_
        refine Z.lnil ?_
        refine Z.only [4, 5] rfl ?_
        refine Z.nthen ?_
        refine Z.ret ?_
        -- ret#1
        refine Z.out2 (by exact ⟨rfl, rfl, trivial⟩) ?_
        first
        | exact ⟨_, rfl, by rw [lvV_some h0 hlt hid], hs.sub (List.nil_sublist _)⟩
        | exact ⟨_, rfl, by rw [lvV_none (by rw [List.take_of_length_le (by omega)] at h0; exact h0)], hs.sub (List.nil_sublist _)⟩
        )
set_option maxHeartbeats 1000000 in
set_option maxRecDepth 100000 in
theorem rv_tick (A B : Option Addr) (c d : Nat) (m : BkV) (t : Int) (w : World) (hA : Sl w A (m.l.flatMap LgV.cells)) (hB : Sl w B (ints .i64 m.b)) (hm : m.ok) :
    Calls Try.prog 43 #[.agg #[.slice A m.l.length c, .slice B m.l.length d, .int .i64 m.now], .int .i64 t] w (SX.Ret fun v w' => ∃ Bn dn Ln, v = .tuple #[.agg #[.slice A m.l.length c, .slice Bn m.l.length dn, .int .i64 (tickV m t).1.now], .int .i64 (tickV m t).2] ∧ SX.St w [] w' Ln ∧ (Ln = [SX.Ent.row (.slice Bn m.l.length dn) 3 1 m.l.length (ints .i64 (tickV m t).1.b)] ∨ Ln = [] ∧ Bn = B ∧ dn = d ∧ (tickV m t).1.b = m.b)) := by
  have hs := SX.St.start w
  have hpos := hm.pos
  have hbl := hm.len
  have hnow := hm.now
  obtain ⟨bb, off, rfl, hb0, hx2⟩ := Z.Sl.some hA (by rw [flat_len lg_len]; omega)
  obtain ⟨bo, offo, rfl, hbo0, hxo⟩ := Z.Sl.some hB (by rw [ints_length]; omega)
  refine Z.enter Try.func43 rfl Try.ntmps43 rfl rfl ?_
  refine Z.seq ?_
  refine Z.region ?_
  refine Z.le rfl trivial ?_
  refine Z.ZO.box rfl rfl (by rfl) rfl rfl hs ?_
  clear hs; intro g2 w2 hs
  refine Z.le rfl trivial ?_
  refine Z.ZO.alloc rfl rfl (by rfl) Try.zeroValue30 rfl hs ?_
  clear hs; intro g4 w4 hs
  refine Z.lb 1 rfl ?_
  refine Z.lnil ?_
  refine Z.only [1, 2, 4] rfl ?_
  refine Z.nthen ?_
  refine Z.seq ?_
  refine Z.seq ?_
  refine Z.region ?_
  refine Z.lb 1 rfl ?_
  refine Z.l rfl rfl (by rfl) (Z.keepS hs) (Z.Yd.fieldA (m := 2) rfl (by kernel_rfl)) ?_
  refine Z.l rfl rfl (by rfl) (Z.keepS hs) (by first | exact Z.Yd.load rfl Try.isAgg3 (fun _ => Z.cellB (by first | ((repeat (first | exact List.mem_cons_self | refine List.mem_cons_of_mem _ ?_ | refine List.mem_append_right _ ?_)); done) | fail) rfl) | exact Z.Yd.load rfl Try.isAgg3 (fun _ => Z.cellO (by assumption) (by simp) (by assumption)) | fail "load 1.2") ?_
  refine Z.lb 5 rfl ?_
  refine Z.lnil ?_
  refine Z.only [1, 2, 4, 15] rfl ?_
  refine Z.nthen ?_
  refine Z.cond rfl (fun hc1 => ?_) (fun hc1 => ?_)
  · first
      | (exfalso; simp at hc1 <;> omega)
      | (
        (try simp at hc1)
        have hno : ¬ okT m t := by unfold okT; omega
        have eT : tickV m t = (m, 2) := if_neg hno
        refine Z.seq ?_
        refine Z.region ?_
        refine Z.l rfl rfl (by rfl) (Z.keepS hs) (by first | exact Z.Yd.loadA _ rfl Try.isAgg30 (fun _ => Z.cellsB (by first | ((repeat (first | exact List.mem_cons_self | refine List.mem_cons_of_mem _ ?_ | refine List.mem_append_right _ ?_)); done) | fail)) (by exact Try.sizeOf30) | fail "load 2.0") ?_
        refine Z.le rfl trivial ?_
        first | refine Z.ZO.storeA rfl rfl hs rfl rfl (by kernel_rfl) (by first | (simp [Value.oneCell']; done) | (refine Z.all_one ?_; assumption)) (by first | exact SX.at0 | exact SX.at1 | exact SX.at2 | exact SX.at3 | exact SX.at4 | exact SX.at5 | exact Z.at6 | exact Z.at7 | exact Z.at8 | exact Z.at9 | exact Z.at10 | exact Z.at11 | exact Z.at12) (by rfl) ?_ | refine Z.ZO.storeP rfl rfl hs rfl rfl (by kernel_rfl) (by first | (simp [Value.oneCell']; done) | (refine Z.all_one ?_; assumption)) (by first | exact SX.at0 | exact SX.at1 | exact SX.at2 | exact SX.at3 | exact SX.at4 | exact SX.at5 | exact Z.at6 | exact Z.at7 | exact Z.at8 | exact Z.at9 | exact Z.at10 | exact Z.at11 | exact Z.at12) (by first | decide | (simp; done) | (simp; omega)) ?_ | refine Z.ZO.storePR rfl rfl hs rfl rfl (by kernel_rfl) (by first | (simp [Value.oneCell']; done) | (refine Z.all_one ?_; assumption)) (by first | exact SX.at0 | exact SX.at1 | exact SX.at2 | exact SX.at3 | exact SX.at4 | exact SX.at5 | exact Z.at6 | exact Z.at7 | exact Z.at8 | exact Z.at9 | exact Z.at10 | exact Z.at11 | exact Z.at12) (by first | decide | (simp; done) | (simp; omega)) ?_
        clear hs; intro ws hs
        simp only [Nat.zero_add, Nat.add_zero, Nat.reduceAdd, Int.reduceToNat, Nat.reduceMul, List.set_cons_zero, List.set_cons_succ, List.setIfInBounds_toArray] at hs
        try simp only [Z.putL, Nat.zero_add] at hs
        refine Z.lb 1 rfl ?_
        refine Z.lnil ?_
        refine Z.only [4, 5] rfl ?_
        refine Z.nthen ?_
        refine Z.ret ?_
        repeat (first | refine Z.rthen ?_ | refine Z.rblock ?_ | refine Z.rscope ?_)
        -- ret#0
        refine Z.out2 (by exact ⟨⟨_, rfl, Z.rvcA hs Try.isAgg30 (by first | ((repeat (first | exact List.mem_cons_self | refine List.mem_cons_of_mem _ ?_ | refine List.mem_append_right _ ?_)); done) | fail) (by exact Try.sizeOf30)⟩, rfl, trivial⟩) ?_
        exact ⟨_, rfl, _, _, _, by rw [eT], hs.sub (List.nil_sublist _), .inr ⟨rfl, rfl, rfl, by rw [eT]⟩⟩
        )
  · first
      | (exfalso; simp at hc1 <;> omega)
      | (
        (try simp at hc1)
        have hok : okT m t := by unfold okT; omega
        have eT : tickV m t = ({ tickG m t m.l.length with now := t }, 0) := if_pos hok
        refine Z.skip ?_
        refine Z.nthen ?_
        refine Z.seq ?_
        refine Z.region ?_
        refine Z.lb 1 rfl ?_
        refine Z.l rfl rfl (by rfl) (Z.keepS hs) (Z.Yd.fieldA (m := 2) rfl (by kernel_rfl)) ?_
        refine Z.l rfl rfl (by rfl) (Z.keepS hs) (by first | exact Z.Yd.load rfl Try.isAgg3 (fun _ => Z.cellB (by first | ((repeat (first | exact List.mem_cons_self | refine List.mem_cons_of_mem _ ?_ | refine List.mem_append_right _ ?_)); done) | fail) rfl) | exact Z.Yd.load rfl Try.isAgg3 (fun _ => Z.cellO (by assumption) (by simp) (by assumption)) | fail "load 3.2") ?_
        refine Z.l rfl rfl (by rfl) (Z.keepS hs) (Z.Yd.sub rfl rfl (fun hG => Z.wi64 (by first | omega | (have hG' := Z.gh rfl hG; simp at hG'; omega)))) ?_
        refine Z.lb 1 rfl ?_
        refine Z.lnil ?_
        refine Z.only [1, 2, 4, 6] rfl ?_
        refine Z.nthen ?_
        refine Z.seq ?_
        refine Z.region ?_
        refine Z.lb 1 rfl ?_
        refine Z.l rfl rfl (by rfl) (Z.keepS hs) (Z.Yd.fieldA (m := 2) rfl (by kernel_rfl)) ?_
        refine Z.le rfl trivial ?_
        first | refine Z.ZO.store rfl rfl hs Try.sizeOf3 rfl rfl rfl (by first | exact SX.at0 | exact SX.at1 | exact SX.at2 | exact SX.at3 | exact SX.at4 | exact SX.at5 | exact Z.at6 | exact Z.at7 | exact Z.at8 | exact Z.at9 | exact Z.at10 | exact Z.at11 | exact Z.at12) (by first | (simp; done) | (simp; omega)) ?_ | refine Z.ZO.storeR rfl rfl hs Try.sizeOf3 rfl rfl rfl (by first | exact SX.at0 | exact SX.at1 | exact SX.at2 | exact SX.at3 | exact SX.at4 | exact SX.at5 | exact Z.at6 | exact Z.at7 | exact Z.at8 | exact Z.at9 | exact Z.at10 | exact Z.at11 | exact Z.at12) (by first | omega | (simp [ints_length]; done) | (simp [ints_length]; omega)) ?_
        clear hs; intro ws hs
        simp only [Nat.zero_add, Nat.add_zero, Nat.reduceAdd, Int.reduceToNat, Nat.reduceMul, List.set_cons_zero, List.set_cons_succ, List.setIfInBounds_toArray] at hs
        refine Z.lnil ?_
        refine Z.only [2, 4, 6] rfl ?_
        refine Z.nthen ?_
        refine Z.seq ?_
        refine Z.region ?_
        refine Z.le rfl trivial ?_
        refine Z.ZO.empty rfl rfl (by rfl) Try.underlying28 Try.sizeOf3 hs ?_
        clear hs; intro g23 w23 hs
        refine Z.l rfl rfl (by rfl) (Z.keepS hs) (Z.Yd.fieldA (m := 1) rfl (by kernel_rfl)) ?_
        refine Z.l rfl rfl (by rfl) (Z.keepS hs) (by first | exact Z.Yd.load rfl Try.isAgg28 (fun _ => Z.cellB (by first | ((repeat (first | exact List.mem_cons_self | refine List.mem_cons_of_mem _ ?_ | refine List.mem_append_right _ ?_)); done) | fail) rfl) | exact Z.Yd.load rfl Try.isAgg28 (fun _ => Z.cellO (by assumption) (by simp) (by assumption)) | fail "load 5.2") ?_
        refine Z.le rfl trivial ?_
        refine Z.ZO.appendG (i0 := Try.t3) (size := 1) (bytes := 8) rfl rfl (by rfl) hs Try.underlying28 (by kernel_rfl) rfl rfl rfl rfl (by decide) rfl rfl (by first | exact SX.at0 | exact SX.at1 | exact SX.at2 | exact SX.at3 | exact SX.at4 | exact SX.at5 | exact Z.at6 | exact Z.at7 | exact Z.at8 | exact Z.at9 | exact Z.at10 | exact Z.at11 | exact Z.at12) (hxo.st (hs.sub (List.nil_sublist _))) (by first | rfl | assumption | (simp [ints_length]; done) | (simp [ints_length]; omega)) (by first | exact Z.ints_one | assumption | simp [Value.oneCell']) (by unfold maxLen; omega) (by omega) ?_
        clear hs; intro v26 w26 hs
        simp only [List.set_cons_zero, List.set_cons_succ] at hs
        simp only [Nat.zero_add, List.nil_append] at hs
        obtain ⟨gn, dn, rfl, hdn⟩ := row_form hs (j := 0) rfl (by omega)
        refine Z.l rfl rfl (by rfl) (Z.keepS hs) (Z.Yd.fieldA (m := 1) rfl (by kernel_rfl)) ?_
        refine Z.le rfl trivial ?_
        first | refine Z.ZO.store rfl rfl hs Try.sizeOf28 rfl rfl rfl (by first | exact SX.at0 | exact SX.at1 | exact SX.at2 | exact SX.at3 | exact SX.at4 | exact SX.at5 | exact Z.at6 | exact Z.at7 | exact Z.at8 | exact Z.at9 | exact Z.at10 | exact Z.at11 | exact Z.at12) (by first | (simp; done) | (simp; omega)) ?_ | refine Z.ZO.storeR rfl rfl hs Try.sizeOf28 rfl rfl rfl (by first | exact SX.at0 | exact SX.at1 | exact SX.at2 | exact SX.at3 | exact SX.at4 | exact SX.at5 | exact Z.at6 | exact Z.at7 | exact Z.at8 | exact Z.at9 | exact Z.at10 | exact Z.at11 | exact Z.at12) (by first | omega | (simp [ints_length]; done) | (simp [ints_length]; omega)) ?_
        clear hs; intro ws hs
        simp only [Nat.zero_add, Nat.add_zero, Nat.reduceAdd, Int.reduceToNat, Nat.reduceMul, List.set_cons_zero, List.set_cons_succ, List.setIfInBounds_toArray] at hs
        refine Z.lnil ?_
        refine Z.only [2, 4, 6] rfl ?_
        refine Z.nthen ?_
        refine Z.seq ?_
        refine Z.seq ?_
        refine Z.region ?_
        refine Z.lb 1 rfl ?_
        refine Z.lnil ?_
        refine Z.only [2, 4, 6, 7] rfl ?_
        refine Z.nthen ?_
        refine Z.block ?_
        refine Z.loopk (ι := Nat) [2, 4, 6] rfl (fun x => [(7, [], .int .i64 (x : Int))]) (fun x wr => x ≤ m.l.length ∧ SX.St w [] wr [SX.Ent.row (.slice (some ⟨gn, 0, none⟩) m.l.length dn) 3 1 m.l.length (ints .i64 (tickG m t x).b), SX.Ent.blk g4 30 #[.slice none 0 0, .slice none 0 0, .int .i64 0], SX.Ent.blk g2 30 #[.slice (some ⟨bb, off, none⟩) m.l.length c, .slice (some ⟨gn, 0, none⟩) m.l.length dn, .int .i64 t]]) (fun x => m.l.length - x) 0 (by refine ⟨?_, trivial⟩ <;> (first | rfl | (refine Z.lookv rfl ?_; simp; done) | (refine Z.lookv rfl ?_; simp; omega))) ⟨Nat.zero_le _, by rw [show tickG m t 0 = m by unfold tickG; rw [upTo_zero hm.len]]; exact hs⟩ ?_
        clear hs
        rintro i w6 ⟨hi, hs⟩
        refine Z.only [2, 4, 6, 7] rfl ?_
        refine Z.seq ?_
        refine Z.seq ?_
        refine Z.region ?_
        refine Z.lb 1 rfl ?_
        refine Z.l rfl rfl (by rfl) (Z.keepS hs) (Z.Yd.fieldA (m := 1) rfl (by kernel_rfl)) ?_
        refine Z.l rfl rfl (by rfl) (Z.keepS hs) (by first | exact Z.Yd.load rfl Try.isAgg28 (fun _ => Z.cellB (by first | ((repeat (first | exact List.mem_cons_self | refine List.mem_cons_of_mem _ ?_ | refine List.mem_append_right _ ?_)); done) | fail) rfl) | exact Z.Yd.load rfl Try.isAgg28 (fun _ => Z.cellO (by assumption) (by simp) (by assumption)) | fail "load 7.2") ?_
        refine Z.l rfl rfl (by rfl) (Z.keepS hs) (Z.Yd.lenS rfl Try.underlying28) ?_
        refine Z.lb 1 rfl ?_
        refine Z.lnil ?_
        refine Z.only [2, 4, 6, 7, 32] rfl ?_
        refine Z.nthen ?_
        refine Z.cond rfl (fun hc7 => ?_) (fun hc7 => ?_)
        · first
            | (exfalso; simp at hc7 <;> omega)
            | (
              (try simp at hc7)
              have hlt : i < m.l.length := by omega
              have hmi := hm.tickG hok i
              have hel : m.l[i]? = some m.l[i]! := by rw [getElem!_pos m.l i hlt]; exact List.getElem?_eq_getElem hlt
              have hbb := tkF_bd hm hok hlt
              have eb : elt (tickG m t i).b (i : Int) = elt m.b (i : Int) := by simp only [tickG]; rw [upTo_elt hlt, if_neg (by omega)]
              have hbd := hm.bd i hlt
              have hln : (tickG m t i).b.length = m.l.length := hmi.len
              obtain ⟨-, -, ⟨r1, r2⟩, ⟨d1, d2⟩, -⟩ := hm.set.lg hlt
              have hcl : (ints .i64 (tickG m t i).b)[0 + (i : Int).toNat * 1]? = some (.int .i64 (elt m.b (i : Int))) := by rw [← eb]; exact Z.ints_at (by omega) (by omega)
              refine Z.skip ?_
              refine Z.nthen ?_
              refine Z.seq ?_
              refine Z.block ?_
              refine Z.drawK (fun j => j != 25) mixed hs ?_
              clear hs; intro wd9 hs
              refine Z.t 0 rfl rfl rfl (by rfl) (by kernel_rfl) ⟨_, hs, by first | (simp; done) | exact fun e he => List.mem_append_right _ he⟩ (Z.Yd.fieldA (m := 1) rfl (by kernel_rfl)) ?_
              refine Z.t 1 rfl rfl rfl (by rfl) (by kernel_rfl) ⟨_, hs, by first | (simp; done) | exact fun e he => List.mem_append_right _ he⟩ (by first | exact Z.Yd.load rfl Try.isAgg28 (fun _ => Z.cellB (by first | ((repeat (first | exact List.mem_cons_self | refine List.mem_cons_of_mem _ ?_ | refine List.mem_append_right _ ?_)); done) | fail) rfl) | exact Z.Yd.load rfl Try.isAgg28 (fun _ => Z.cellO (by assumption) (by simp) (by assumption)) | fail "load 9.1") ?_
              refine Z.tb [2] (by kernel_rfl) rfl ⟨_, hs, by first | (simp; done) | exact fun e he => List.mem_append_right _ he⟩ rfl ?_
              refine Z.t 3 rfl rfl rfl (by rfl) (by kernel_rfl) ⟨_, hs, by first | (simp; done) | exact fun e he => List.mem_append_right _ he⟩ (Z.Yd.fieldA (m := 0) rfl (by kernel_rfl)) ?_
              refine Z.t 4 rfl rfl rfl (by rfl) (by kernel_rfl) ⟨_, hs, by first | (simp; done) | exact fun e he => List.mem_append_right _ he⟩ (by first | exact Z.Yd.load rfl Try.isAgg22 (fun _ => Z.cellB (by first | ((repeat (first | exact List.mem_cons_self | refine List.mem_cons_of_mem _ ?_ | refine List.mem_append_right _ ?_)); done) | fail) rfl) | exact Z.Yd.load rfl Try.isAgg22 (fun _ => Z.cellO (by assumption) (by simp) (by assumption)) | fail "load 9.4") ?_
              refine Z.tb [5] (by kernel_rfl) rfl ⟨_, hs, by first | (simp; done) | exact fun e he => List.mem_append_right _ he⟩ rfl ?_
              refine Z.t 6 rfl rfl rfl (by rfl) (by kernel_rfl) ⟨_, hs, by first | (simp; done) | exact fun e he => List.mem_append_right _ he⟩ (Z.Yd.elem rfl rfl Try.underlying22 Try.sizeOf38 (fun hG => ⟨(by first | omega | (have hG' := Z.gh rfl hG; simp at hG'; omega)), (by first | omega | (have hG' := Z.gh rfl hG; simp at hG'; omega))⟩)) ?_
              refine Z.t 7 rfl rfl rfl (by rfl) (by kernel_rfl) ⟨_, hs, by first | (simp; done) | exact fun e he => List.mem_append_right _ he⟩ (Z.Yd.fieldA (m := 3) rfl (by kernel_rfl)) ?_
              refine Z.t 8 rfl rfl rfl (by rfl) (by kernel_rfl) ⟨_, hs, by first | (simp; done) | exact fun e he => List.mem_append_right _ he⟩ (Z.Yd.load rfl Try.isAgg3 (fun _ => Z.cellXf hx2.sx lg_len hel rfl)) ?_
              refine Z.t 9 rfl rfl rfl (by rfl) (by kernel_rfl) ⟨_, hs, by first | (simp; done) | exact fun e he => List.mem_append_right _ he⟩ (Z.Yd.fieldA (m := 1) rfl (by kernel_rfl)) ?_
              refine Z.t 10 rfl rfl rfl (by rfl) (by kernel_rfl) ⟨_, hs, by first | (simp; done) | exact fun e he => List.mem_append_right _ he⟩ (by first | exact Z.Yd.load rfl Try.isAgg28 (fun _ => Z.cellB (by first | ((repeat (first | exact List.mem_cons_self | refine List.mem_cons_of_mem _ ?_ | refine List.mem_append_right _ ?_)); done) | fail) rfl) | exact Z.Yd.load rfl Try.isAgg28 (fun _ => Z.cellO (by assumption) (by simp) (by assumption)) | fail "load 9.10") ?_
              refine Z.tb [11] (by kernel_rfl) rfl ⟨_, hs, by first | (simp; done) | exact fun e he => List.mem_append_right _ he⟩ rfl ?_
              refine Z.t 12 rfl rfl rfl (by rfl) (by kernel_rfl) ⟨_, hs, by first | (simp; done) | exact fun e he => List.mem_append_right _ he⟩ (Z.Yd.elem rfl rfl Try.underlying28 Try.sizeOf3 (fun hG => ⟨(by first | omega | (have hG' := Z.gh rfl hG; simp at hG'; omega)), (by first | omega | (have hG' := Z.gh rfl hG; simp at hG'; omega))⟩)) ?_
              refine Z.t 13 rfl rfl rfl (by rfl) (by kernel_rfl) ⟨_, hs, by first | (simp; done) | exact fun e he => List.mem_append_right _ he⟩ (Z.Yd.load rfl Try.isAgg3 (fun _ => Z.cellR (by first | ((repeat (first | exact List.mem_cons_self | refine List.mem_cons_of_mem _ ?_ | refine List.mem_append_right _ ?_)); done) | fail) hcl)) ?_
              refine Z.t 14 rfl rfl rfl (by rfl) (by kernel_rfl) ⟨_, hs, by first | (simp; done) | exact fun e he => List.mem_append_right _ he⟩ (Z.Yd.fieldA (m := 0) rfl (by kernel_rfl)) ?_
              refine Z.t 15 rfl rfl rfl (by rfl) (by kernel_rfl) ⟨_, hs, by first | (simp; done) | exact fun e he => List.mem_append_right _ he⟩ (by first | exact Z.Yd.load rfl Try.isAgg22 (fun _ => Z.cellB (by first | ((repeat (first | exact List.mem_cons_self | refine List.mem_cons_of_mem _ ?_ | refine List.mem_append_right _ ?_)); done) | fail) rfl) | exact Z.Yd.load rfl Try.isAgg22 (fun _ => Z.cellO (by assumption) (by simp) (by assumption)) | fail "load 9.15") ?_
              refine Z.tb [16] (by kernel_rfl) rfl ⟨_, hs, by first | (simp; done) | exact fun e he => List.mem_append_right _ he⟩ rfl ?_
              refine Z.t 17 rfl rfl rfl (by rfl) (by kernel_rfl) ⟨_, hs, by first | (simp; done) | exact fun e he => List.mem_append_right _ he⟩ (Z.Yd.elem rfl rfl Try.underlying22 Try.sizeOf38 (fun hG => ⟨(by first | omega | (have hG' := Z.gh rfl hG; simp at hG'; omega)), (by first | omega | (have hG' := Z.gh rfl hG; simp at hG'; omega))⟩)) ?_
              refine Z.t 18 rfl rfl rfl (by rfl) (by kernel_rfl) ⟨_, hs, by first | (simp; done) | exact fun e he => List.mem_append_right _ he⟩ (Z.Yd.fieldA (m := 2) rfl (by kernel_rfl)) ?_
              refine Z.t 19 rfl rfl rfl (by rfl) (by kernel_rfl) ⟨_, hs, by first | (simp; done) | exact fun e he => List.mem_append_right _ he⟩ (Z.Yd.load rfl Try.isAgg3 (fun _ => Z.cellXf hx2.sx lg_len hel rfl)) ?_
              refine Z.tb [20] (by kernel_rfl) rfl ⟨_, hs, by first | (simp; done) | exact fun e he => List.mem_append_right _ he⟩ rfl ?_
              refine Z.t 21 rfl rfl rfl (by rfl) (by kernel_rfl) ⟨_, hs, by first | (simp; done) | exact fun e he => List.mem_append_right _ he⟩ (Z.Yd.mul rfl rfl (fun hG => Z.wi64 (by first | omega | (have hG' := Z.gh rfl hG; simp at hG'; omega)))) ?_
              refine Z.t 22 rfl rfl rfl (by rfl) (by kernel_rfl) ⟨_, hs, by first | (simp; done) | exact fun e he => List.mem_append_right _ he⟩ (Z.Yd.add rfl rfl (fun hG => Z.wi64 (by first | omega | (have hG' := Z.gh rfl hG; simp at hG'; omega)))) ?_
              refine Z.t 23 rfl rfl rfl (by rfl) (by kernel_rfl) ⟨_, hs, by first | (simp; done) | exact fun e he => List.mem_append_right _ he⟩ (Z.Yd.min rfl rfl) ?_
              refine Z.t 24 rfl rfl rfl (by rfl) (by kernel_rfl) ⟨_, hs, by first | (simp; done) | exact fun e he => List.mem_append_right _ he⟩ (Z.Yd.elem rfl rfl Try.underlying28 Try.sizeOf3 (fun hG => ⟨(by first | omega | (have hG' := Z.gh rfl hG; simp at hG'; omega)), (by first | omega | (have hG' := Z.gh rfl hG; simp at hG'; omega))⟩)) ?_
              refine Z.tn 25 rfl rfl (by kernel_rfl) rfl trivial ?_
              first | refine Z.ZO.store rfl rfl hs Try.sizeOf3 rfl rfl rfl (by first | exact SX.at0 | exact SX.at1 | exact SX.at2 | exact SX.at3 | exact SX.at4 | exact SX.at5 | exact Z.at6 | exact Z.at7 | exact Z.at8 | exact Z.at9 | exact Z.at10 | exact Z.at11 | exact Z.at12) (by first | (simp; done) | (simp; omega)) ?_ | refine Z.ZO.storeR rfl rfl hs Try.sizeOf3 rfl rfl rfl (by first | exact SX.at0 | exact SX.at1 | exact SX.at2 | exact SX.at3 | exact SX.at4 | exact SX.at5 | exact Z.at6 | exact Z.at7 | exact Z.at8 | exact Z.at9 | exact Z.at10 | exact Z.at11 | exact Z.at12) (by first | omega | (simp [ints_length]; done) | (simp [ints_length]; omega)) ?_
              clear hs; intro ws hs
              simp only [Nat.zero_add, Nat.add_zero, Nat.reduceAdd, Int.reduceToNat, Nat.reduceMul, List.set_cons_zero, List.set_cons_succ, List.setIfInBounds_toArray] at hs
              refine Z.tk (Dn := fun j => j != 25) (i := 25) (fun h => absurd h (by decide)) ?_
              refine Z.td (by rfl) (by kernel_rfl) ?_
              refine Z.only [2, 4, 6, 7] rfl ?_
              refine Z.nblock ?_
              refine Z.nthen ?_
              refine Z.region ?_
              refine Z.lb 1 rfl ?_
              refine Z.l rfl rfl (by rfl) (Z.keepS hs) (Z.Yd.add rfl rfl (fun hG => Z.wi64 (by first | omega | (have hG' := Z.gh rfl hG; simp at hG'; omega)))) ?_
              refine Z.lb 1 rfl ?_
              refine Z.lnil ?_
              refine Z.only [2, 4, 6, 7] rfl ?_
              refine Z.nthen ?_
              refine Z.again (i + 1) (by refine ⟨?_, ?_, ?_, ?_, trivial⟩ <;> (first | rfl | (refine Z.lookv rfl ?_; simp; done) | (refine Z.lookv rfl ?_; simp; omega))) ⟨by omega, ?_⟩ (by omega)
              rw [Int.toNat_natCast, Nat.mul_one] at hs
              have e : (ints .i64 (tickG m t i).b).set i (.int .i64 (tkF m t i)) = ints .i64 (tickG m t (i + 1)).b := by simp only [ints, tickG]; rw [← upTo_set, List.map_set]
              rw [← e]
              exact hs
              )
        · first
            | (exfalso; simp at hc7 <;> omega)
            | (
              (try simp at hc7)
              refine Z.exit ?_
              refine Z.xthen ?_
              refine Z.xthen ?_
              refine Z.xblock ?_
              refine Z.nthen ?_
              refine Z.seq ?_
              refine Z.region ?_
              refine Z.l rfl rfl (by rfl) (Z.keepS hs) (by first | exact Z.Yd.loadA _ rfl Try.isAgg30 (fun _ => Z.cellsB (by first | ((repeat (first | exact List.mem_cons_self | refine List.mem_cons_of_mem _ ?_ | refine List.mem_append_right _ ?_)); done) | fail)) (by exact Try.sizeOf30) | fail "load 10.0") ?_
              refine Z.le rfl trivial ?_
              first | refine Z.ZO.storeA rfl rfl hs rfl rfl (by kernel_rfl) (by first | (simp [Value.oneCell']; done) | (refine Z.all_one ?_; assumption)) (by first | exact SX.at0 | exact SX.at1 | exact SX.at2 | exact SX.at3 | exact SX.at4 | exact SX.at5 | exact Z.at6 | exact Z.at7 | exact Z.at8 | exact Z.at9 | exact Z.at10 | exact Z.at11 | exact Z.at12) (by rfl) ?_ | refine Z.ZO.storeP rfl rfl hs rfl rfl (by kernel_rfl) (by first | (simp [Value.oneCell']; done) | (refine Z.all_one ?_; assumption)) (by first | exact SX.at0 | exact SX.at1 | exact SX.at2 | exact SX.at3 | exact SX.at4 | exact SX.at5 | exact Z.at6 | exact Z.at7 | exact Z.at8 | exact Z.at9 | exact Z.at10 | exact Z.at11 | exact Z.at12) (by first | decide | (simp; done) | (simp; omega)) ?_ | refine Z.ZO.storePR rfl rfl hs rfl rfl (by kernel_rfl) (by first | (simp [Value.oneCell']; done) | (refine Z.all_one ?_; assumption)) (by first | exact SX.at0 | exact SX.at1 | exact SX.at2 | exact SX.at3 | exact SX.at4 | exact SX.at5 | exact Z.at6 | exact Z.at7 | exact Z.at8 | exact Z.at9 | exact Z.at10 | exact Z.at11 | exact Z.at12) (by first | decide | (simp; done) | (simp; omega)) ?_
              clear hs; intro ws hs
              simp only [Nat.zero_add, Nat.add_zero, Nat.reduceAdd, Int.reduceToNat, Nat.reduceMul, List.set_cons_zero, List.set_cons_succ, List.setIfInBounds_toArray] at hs
              try simp only [Z.putL, Nat.zero_add] at hs
              refine Z.lb 1 rfl ?_
              refine Z.lnil ?_
              refine Z.only [4, 5] rfl ?_
              refine Z.nthen ?_
              refine Z.ret ?_
              -- ret#1
              refine Z.out2 (by exact ⟨⟨_, rfl, Z.rvcA hs Try.isAgg30 (by first | ((repeat (first | exact List.mem_cons_self | refine List.mem_cons_of_mem _ ?_ | refine List.mem_append_right _ ?_)); done) | fail) (by exact Try.sizeOf30)⟩, rfl, trivial⟩) ?_
              obtain rfl : i = m.l.length := by omega
              exact ⟨_, rfl, _, _, [SX.Ent.row _ 3 1 m.l.length (ints .i64 (tickG m t m.l.length).b)], by rw [eT], hs.sel [0] (by decide), .inl (by rw [eT])⟩
              )
        )
theorem rnd1_b {dem : List Int} : ∀ {o : List Nat} {s : DvS}, (rnd 1 dem s o).b = s.b
  | [], _ => rfl
  | i :: o, s => by
    have h1 := rnd1_b (dem := dem) (o := o) (s := dst 1 dem s i)
    show (rnd 1 dem (dst 1 dem s i) o).b = _
    rw [h1]
    rfl
theorem rounds_zero (m : BkV) (size : Int) (dem : List Int) {k : Nat} (hs : okSet m.l) (hk : k < (ordL m.l).length) : elt (rnd 0 dem (dv0 m size) ((ordL m.l).take k)).out (((ordL m.l)[k] : Nat) : Int) = 0 := by
  have hi : (ordL m.l)[k] < m.l.length := (mem_ordL hs).1 (List.getElem_mem _)
  rw [rnd_out]
  · simp [dv0, elt, hi]
  · intro hmem
    obtain ⟨j, hj, he⟩ := List.mem_take_iff_getElem.1 hmem
    have hpw := List.pairwise_iff_getElem.1 (ordL_nodup hs) j k (by omega) hk (by omega)
    exact hpw he
  · simp [dv0, hi]
set_option maxHeartbeats 1000000 in
set_option maxRecDepth 100000 in
theorem rv_divide (A B Dm : Option Addr) (c d nd cd : Nat) (m : BkV) (size : Int) (dem : List Int) (w : World) (hA : Sl w A (m.l.flatMap LgV.cells)) (hB : Sl w B (ints .i64 m.b)) (hD : Sl w Dm (ints .i64 dem)) (hdl : dem.length = nd) (hm : m.ok) :
    Calls Try.prog 42 #[.agg #[.slice A m.l.length c, .slice B m.l.length d, .int .i64 m.now], .int .i64 size, .slice Dm nd cd] w (SX.Ret fun v w' => ∃ Bn dn ov Ln, v = .tuple #[.agg #[.slice A m.l.length c, .slice Bn m.l.length dn, .int .i64 m.now], ov, .int .i64 (divV m size dem).2.2] ∧ SX.St w [] w' (SX.Ent.row ov 3 1 (divV m size dem).2.1.length (ints .i64 (divV m size dem).2.1) :: Ln) ∧ (Ln = [SX.Ent.row (.slice Bn m.l.length dn) 3 1 m.l.length (ints .i64 (divV m size dem).1.b)] ∨ Ln = [] ∧ Bn = B ∧ dn = d ∧ (divV m size dem).1.b = m.b)) := by
  have hs := SX.St.start w
  have hpos := hm.pos
  have hbl := hm.len
  obtain ⟨bb, off, rfl, hb0, hx2⟩ := Z.Sl.some hA (by rw [flat_len lg_len]; omega)
  obtain ⟨bo, offo, rfl, hbo0, hxo⟩ := Z.Sl.some hB (by rw [ints_length]; omega)
  refine Z.enter Try.func42 rfl Try.ntmps42 rfl rfl ?_
  refine Z.seq ?_
  refine Z.region ?_
  refine Z.le rfl trivial ?_
  refine Z.ZO.box rfl rfl (by rfl) rfl rfl hs ?_
  clear hs; intro g3 w3 hs
  refine Z.le rfl trivial ?_
  refine Z.ZO.alloc rfl rfl (by rfl) Try.zeroValue30 rfl hs ?_
  clear hs; intro g6 w6 hs
  refine Z.lb 2 rfl ?_
  refine Z.lnil ?_
  refine Z.only [1, 2, 3, 6] rfl ?_
  refine Z.nthen ?_
  refine Z.seq ?_
  refine Z.seq ?_
  refine Z.region ?_
  refine Z.lb 8 rfl ?_
  refine Z.l rfl rfl (by rfl) (Z.keepS hs) (Z.Yd.lenS rfl Try.underlying28) ?_
  refine Z.l rfl rfl (by rfl) (Z.keepS hs) (Z.Yd.fieldA (m := 0) rfl (by kernel_rfl)) ?_
  refine Z.l rfl rfl (by rfl) (Z.keepS hs) (by first | exact Z.Yd.load rfl Try.isAgg22 (fun _ => Z.cellB (by first | ((repeat (first | exact List.mem_cons_self | refine List.mem_cons_of_mem _ ?_ | refine List.mem_append_right _ ?_)); done) | fail) rfl) | exact Z.Yd.load rfl Try.isAgg22 (fun _ => Z.cellO (by assumption) (by simp) (by assumption)) | fail "load 1.10") ?_
  refine Z.l rfl rfl (by rfl) (Z.keepS hs) (Z.Yd.lenS rfl Try.underlying22) ?_
  refine Z.lb 2 rfl ?_
  refine Z.lnil ?_
  refine Z.only [1, 2, 3, 6, 31] rfl ?_
  refine Z.nthen ?_
  refine Z.cond rfl (fun hc1 => ?_) (fun hc1 => ?_)
  · first
      | (exfalso; simp at hc1 <;> omega)
      | (
        (try simp at hc1)
        have hno : ¬ okD m size dem := by rintro ⟨h1, h2, -⟩; omega
        have eD : divV m size dem = (m, [], 2) := if_neg hno
        refine Z.seq ?_
        refine Z.region ?_
        refine Z.l rfl rfl (by rfl) (Z.keepS hs) (by first | exact Z.Yd.loadA _ rfl Try.isAgg30 (fun _ => Z.cellsB (by first | ((repeat (first | exact List.mem_cons_self | refine List.mem_cons_of_mem _ ?_ | refine List.mem_append_right _ ?_)); done) | fail)) (by exact Try.sizeOf30) | fail "load 2.0") ?_
        refine Z.le rfl trivial ?_
        first | refine Z.ZO.storeA rfl rfl hs rfl rfl (by kernel_rfl) (by first | (simp [Value.oneCell']; done) | (refine Z.all_one ?_; assumption)) (by first | exact SX.at0 | exact SX.at1 | exact SX.at2 | exact SX.at3 | exact SX.at4 | exact SX.at5 | exact Z.at6 | exact Z.at7 | exact Z.at8 | exact Z.at9 | exact Z.at10 | exact Z.at11 | exact Z.at12) (by rfl) ?_ | refine Z.ZO.storeP rfl rfl hs rfl rfl (by kernel_rfl) (by first | (simp [Value.oneCell']; done) | (refine Z.all_one ?_; assumption)) (by first | exact SX.at0 | exact SX.at1 | exact SX.at2 | exact SX.at3 | exact SX.at4 | exact SX.at5 | exact Z.at6 | exact Z.at7 | exact Z.at8 | exact Z.at9 | exact Z.at10 | exact Z.at11 | exact Z.at12) (by first | decide | (simp; done) | (simp; omega)) ?_ | refine Z.ZO.storePR rfl rfl hs rfl rfl (by kernel_rfl) (by first | (simp [Value.oneCell']; done) | (refine Z.all_one ?_; assumption)) (by first | exact SX.at0 | exact SX.at1 | exact SX.at2 | exact SX.at3 | exact SX.at4 | exact SX.at5 | exact Z.at6 | exact Z.at7 | exact Z.at8 | exact Z.at9 | exact Z.at10 | exact Z.at11 | exact Z.at12) (by first | decide | (simp; done) | (simp; omega)) ?_
        clear hs; intro ws hs
        simp only [Nat.zero_add, Nat.add_zero, Nat.reduceAdd, Int.reduceToNat, Nat.reduceMul, List.set_cons_zero, List.set_cons_succ, List.setIfInBounds_toArray] at hs
        try simp only [Z.putL, Nat.zero_add] at hs
        refine Z.lb 2 rfl ?_
        refine Z.lnil ?_
        refine Z.only [6, 7, 8] rfl ?_
        refine Z.nthen ?_
        refine Z.ret ?_
        repeat (first | refine Z.rthen ?_ | refine Z.rblock ?_ | refine Z.rscope ?_)
        -- ret#0
        refine Z.out3 (by exact ⟨⟨_, rfl, Z.rvcA hs Try.isAgg30 (by first | ((repeat (first | exact List.mem_cons_self | refine List.mem_cons_of_mem _ ?_ | refine List.mem_append_right _ ?_)); done) | fail) (by exact Try.sizeOf30)⟩, rfl, rfl, trivial⟩) ?_
        exact ⟨_, rfl, _, _, .slice none 0 0, [], by rw [eD], by rw [eD]; exact (hs.sub (List.nil_sublist _)).nil 3 1, .inr ⟨rfl, rfl, rfl, by rw [eD]⟩⟩
        )
  · first
      | (exfalso; simp at hc1 <;> omega)
      | (
        (try simp at hc1)
        have hnd : nd = m.l.length := by omega
        obtain ⟨bd, od, rfl, hbd0, hdx⟩ := Z.Sl.some hD (by rw [ints_length]; omega)
        refine Z.skip ?_
        refine Z.nthen ?_
        refine Z.seq ?_
        refine Z.seq ?_
        refine Z.region ?_
        refine Z.lb 1 rfl ?_
        refine Z.lnil ?_
        refine Z.only [1, 2, 3, 6, 9] rfl ?_
        refine Z.nthen ?_
        refine Z.block ?_
        refine Z.loopk (ι := Nat) [1, 2, 3, 6] rfl (fun x => [(9, [], .int .i64 (x : Int))]) (fun x wr => (x ≤ nd ∧ ∀ i : Nat, i < x → 0 ≤ elt dem (i : Int) ∧ elt dem (i : Int) ≤ 16777216) ∧ SX.St w [] wr [SX.Ent.blk g6 30 #[.slice none 0 0, .slice none 0 0, .int .i64 0], SX.Ent.blk g3 30 #[.slice (some ⟨bb, off, none⟩) m.l.length c, .slice (some ⟨bo, offo, none⟩) m.l.length d, .int .i64 m.now]]) (fun x => nd - x) 0 (by refine ⟨?_, trivial⟩ <;> (first | rfl | (refine Z.lookv rfl ?_; simp; done) | (refine Z.lookv rfl ?_; simp; omega))) ⟨⟨Nat.zero_le _, fun i hi => absurd hi (by omega)⟩, hs⟩ ?_
        clear hs
        rintro i w4 ⟨⟨hi, h0⟩, hs⟩
        refine Z.only [1, 2, 3, 6, 9] rfl ?_
        refine Z.seq ?_
        refine Z.seq ?_
        refine Z.region ?_
        refine Z.lb 2 rfl ?_
        refine Z.l rfl rfl (by rfl) (Z.keepS hs) (Z.Yd.lenS rfl Try.underlying28) ?_
        refine Z.lb 1 rfl ?_
        refine Z.lnil ?_
        refine Z.only [1, 2, 3, 6, 9, 36] rfl ?_
        refine Z.nthen ?_
        refine Z.cond rfl (fun hc4 => ?_) (fun hc4 => ?_)
        · first
            | (exfalso; simp at hc4 <;> omega)
            | (
              (try simp at hc4)
              have h0k : ∀ j : Nat, j < i + 1 → j < i ∨ j = i := fun j hj => by omega
              refine Z.skip ?_
              refine Z.nthen ?_
              refine Z.seq ?_
              refine Z.block ?_
              refine Z.seq ?_
              refine Z.region ?_
              refine Z.lb 2 rfl ?_
              refine Z.l rfl rfl (by rfl) (Z.keepS hs) (Z.Yd.elem rfl rfl Try.underlying28 Try.sizeOf3 (fun hG => ⟨(by first | omega | (have hG' := Z.gh rfl hG; simp at hG'; omega)), (by first | omega | (have hG' := Z.gh rfl hG; simp at hG'; omega))⟩)) ?_
              refine Z.l rfl rfl (by rfl) (Z.keepS hs) (Z.Yd.load rfl Try.isAgg3 (fun _ => Z.cellS hdx rfl (by omega) (by omega))) ?_
              refine Z.lb 4 rfl ?_
              refine Z.l rfl rfl (by rfl) (Z.keepS hs) (Z.Yd.elem rfl rfl Try.underlying28 Try.sizeOf3 (fun hG => ⟨(by first | omega | (have hG' := Z.gh rfl hG; simp at hG'; omega)), (by first | omega | (have hG' := Z.gh rfl hG; simp at hG'; omega))⟩)) ?_
              refine Z.l rfl rfl (by rfl) (Z.keepS hs) (Z.Yd.load rfl Try.isAgg3 (fun _ => Z.cellS hdx rfl (by omega) (by omega))) ?_
              refine Z.lb 2 rfl ?_
              refine Z.lnil ?_
              refine Z.only [1, 2, 3, 6, 9, 50] rfl ?_
              refine Z.nthen ?_
              refine Z.cond rfl (fun hc6 => ?_) (fun hc6 => ?_)
              · first
                  | (exfalso; simp at hc6 <;> omega)
                  | (
                    (try simp at hc6)
                    have hno : ¬ okD m size dem := by
                      rintro ⟨-, -, h3⟩
                      have := h3.elt (i := i) (by omega)
                      omega
                    have eD : divV m size dem = (m, [], 2) := if_neg hno
                    refine Z.seq ?_
                    refine Z.region ?_
                    refine Z.l rfl rfl (by rfl) (Z.keepS hs) (by first | exact Z.Yd.loadA _ rfl Try.isAgg30 (fun _ => Z.cellsB (by first | ((repeat (first | exact List.mem_cons_self | refine List.mem_cons_of_mem _ ?_ | refine List.mem_append_right _ ?_)); done) | fail)) (by exact Try.sizeOf30) | fail "load 7.0") ?_
                    refine Z.le rfl trivial ?_
                    first | refine Z.ZO.storeA rfl rfl hs rfl rfl (by kernel_rfl) (by first | (simp [Value.oneCell']; done) | (refine Z.all_one ?_; assumption)) (by first | exact SX.at0 | exact SX.at1 | exact SX.at2 | exact SX.at3 | exact SX.at4 | exact SX.at5 | exact Z.at6 | exact Z.at7 | exact Z.at8 | exact Z.at9 | exact Z.at10 | exact Z.at11 | exact Z.at12) (by rfl) ?_ | refine Z.ZO.storeP rfl rfl hs rfl rfl (by kernel_rfl) (by first | (simp [Value.oneCell']; done) | (refine Z.all_one ?_; assumption)) (by first | exact SX.at0 | exact SX.at1 | exact SX.at2 | exact SX.at3 | exact SX.at4 | exact SX.at5 | exact Z.at6 | exact Z.at7 | exact Z.at8 | exact Z.at9 | exact Z.at10 | exact Z.at11 | exact Z.at12) (by first | decide | (simp; done) | (simp; omega)) ?_ | refine Z.ZO.storePR rfl rfl hs rfl rfl (by kernel_rfl) (by first | (simp [Value.oneCell']; done) | (refine Z.all_one ?_; assumption)) (by first | exact SX.at0 | exact SX.at1 | exact SX.at2 | exact SX.at3 | exact SX.at4 | exact SX.at5 | exact Z.at6 | exact Z.at7 | exact Z.at8 | exact Z.at9 | exact Z.at10 | exact Z.at11 | exact Z.at12) (by first | decide | (simp; done) | (simp; omega)) ?_
                    clear hs; intro ws hs
                    simp only [Nat.zero_add, Nat.add_zero, Nat.reduceAdd, Int.reduceToNat, Nat.reduceMul, List.set_cons_zero, List.set_cons_succ, List.setIfInBounds_toArray] at hs
                    try simp only [Z.putL, Nat.zero_add] at hs
                    refine Z.lb 2 rfl ?_
                    refine Z.lnil ?_
                    refine Z.only [6, 7, 8] rfl ?_
                    refine Z.nthen ?_
                    refine Z.ret ?_
                    repeat (first | refine Z.rthen ?_ | refine Z.rblock ?_ | refine Z.rscope ?_)
                    -- ret#1
                    refine Z.out3 (by exact ⟨⟨_, rfl, Z.rvcA hs Try.isAgg30 (by first | ((repeat (first | exact List.mem_cons_self | refine List.mem_cons_of_mem _ ?_ | refine List.mem_append_right _ ?_)); done) | fail) (by exact Try.sizeOf30)⟩, rfl, rfl, trivial⟩) ?_
                    exact ⟨_, rfl, _, _, .slice none 0 0, [], by rw [eD], by rw [eD]; exact (hs.sub (List.nil_sublist _)).nil 3 1, .inr ⟨rfl, rfl, rfl, by rw [eD]⟩⟩
                    )
              · first
                  | (exfalso; simp at hc6 <;> omega)
                  | (
                    (try simp at hc6)
                    refine Z.skip ?_
                    refine Z.nblock ?_
                    refine Z.nthen ?_
                    refine Z.region ?_
                    refine Z.lb 1 rfl ?_
                    refine Z.l rfl rfl (by rfl) (Z.keepS hs) (Z.Yd.add rfl rfl (fun hG => Z.wi64 (by first | omega | (have hG' := Z.gh rfl hG; simp at hG'; omega)))) ?_
                    refine Z.lb 1 rfl ?_
                    refine Z.lnil ?_
                    refine Z.only [1, 2, 3, 6, 9] rfl ?_
                    refine Z.nthen ?_
                    refine Z.again (i + 1) (by refine ⟨?_, ?_, ?_, ?_, ?_, trivial⟩ <;> (first | rfl | (refine Z.lookv rfl ?_; simp; done) | (refine Z.lookv rfl ?_; simp; omega))) ⟨⟨by omega, fun j hj => ?_⟩, hs⟩ (by omega)
                    rcases h0k j hj with h | rfl
                    · exact h0 j h
                    · omega
                    )
              )
        · first
            | (exfalso; simp at hc4 <;> omega)
            | (
              (try simp at hc4)
              refine Z.exit ?_
              refine Z.xthen ?_
              refine Z.xthen ?_
              refine Z.xblock ?_
              refine Z.nthen ?_
              refine Z.seq ?_
              refine Z.region ?_
              have hok : okD m size dem := ⟨by omega, by omega, fun x hx => by
                obtain ⟨j, hj, rfl⟩ := List.mem_iff_getElem.1 hx
                rw [← elt_get hj]
                exact h0 j (by omega)⟩
              have eD : divV m size dem = ({ m with b := (rounds m size dem 2).b }, (rounds m size dem 2).out, 0) := if_pos hok
              refine Z.le rfl trivial ?_
              refine Z.ZO.empty rfl rfl (by rfl) Try.underlying28 Try.sizeOf3 hs ?_
              clear hs; intro g52 w52 hs
              refine Z.l rfl rfl (by rfl) (Z.keepS hs) (Z.Yd.fieldA (m := 1) rfl (by kernel_rfl)) ?_
              refine Z.l rfl rfl (by rfl) (Z.keepS hs) (by first | exact Z.Yd.load rfl Try.isAgg28 (fun _ => Z.cellB (by first | ((repeat (first | exact List.mem_cons_self | refine List.mem_cons_of_mem _ ?_ | refine List.mem_append_right _ ?_)); done) | fail) rfl) | exact Z.Yd.load rfl Try.isAgg28 (fun _ => Z.cellO (by assumption) (by simp) (by assumption)) | fail "load 8.2") ?_
              refine Z.le rfl trivial ?_
              refine Z.ZO.appendG (i0 := Try.t3) (size := 1) (bytes := 8) rfl rfl (by rfl) hs Try.underlying28 (by kernel_rfl) rfl rfl rfl rfl (by decide) rfl rfl (by first | exact SX.at0 | exact SX.at1 | exact SX.at2 | exact SX.at3 | exact SX.at4 | exact SX.at5 | exact Z.at6 | exact Z.at7 | exact Z.at8 | exact Z.at9 | exact Z.at10 | exact Z.at11 | exact Z.at12) (hxo.st (hs.sub (List.nil_sublist _))) (by first | rfl | assumption | (simp [ints_length]; done) | (simp [ints_length]; omega)) (by first | exact Z.ints_one | assumption | simp [Value.oneCell']) (by unfold maxLen; omega) (by omega) ?_
              clear hs; intro v55 w55 hs
              simp only [List.set_cons_zero, List.set_cons_succ] at hs
              simp only [Nat.zero_add, List.nil_append] at hs
              obtain ⟨gn, dn, rfl, hdn⟩ := row_form hs (j := 0) rfl (by omega)
              refine Z.l rfl rfl (by rfl) (Z.keepS hs) (Z.Yd.fieldA (m := 1) rfl (by kernel_rfl)) ?_
              refine Z.le rfl trivial ?_
              first | refine Z.ZO.store rfl rfl hs Try.sizeOf28 rfl rfl rfl (by first | exact SX.at0 | exact SX.at1 | exact SX.at2 | exact SX.at3 | exact SX.at4 | exact SX.at5 | exact Z.at6 | exact Z.at7 | exact Z.at8 | exact Z.at9 | exact Z.at10 | exact Z.at11 | exact Z.at12) (by first | (simp; done) | (simp; omega)) ?_ | refine Z.ZO.storeR rfl rfl hs Try.sizeOf28 rfl rfl rfl (by first | exact SX.at0 | exact SX.at1 | exact SX.at2 | exact SX.at3 | exact SX.at4 | exact SX.at5 | exact Z.at6 | exact Z.at7 | exact Z.at8 | exact Z.at9 | exact Z.at10 | exact Z.at11 | exact Z.at12) (by first | omega | (simp [ints_length]; done) | (simp [ints_length]; omega)) ?_
              clear hs; intro ws hs
              simp only [Nat.zero_add, Nat.add_zero, Nat.reduceAdd, Int.reduceToNat, Nat.reduceMul, List.set_cons_zero, List.set_cons_succ, List.setIfInBounds_toArray] at hs
              refine Z.lnil ?_
              refine Z.only [1, 2, 3, 6] rfl ?_
              refine Z.nthen ?_
              refine Z.seq ?_
              refine Z.region ?_
              refine Z.lb 1 rfl ?_
              refine Z.l rfl rfl (by rfl) (Z.keepS hs) (Z.Yd.lenS rfl Try.underlying28) ?_
              refine Z.le rfl trivial ?_
              refine Z.ZO.make1 (i0 := Try.t3) (bytes := 8) rfl rfl (by rfl) hs Try.underlying28 (by kernel_rfl) rfl rfl rfl rfl rfl rfl (by omega) (by unfold maxLen; omega) ?_
              clear hs; intro g59 w59 hs
              refine Z.lb 1 rfl ?_
              refine Z.lnil ?_
              refine Z.only [1, 2, 3, 6, 10] rfl ?_
              refine Z.nthen ?_
              refine Z.seq ?_
              refine Z.region ?_
              refine Z.l rfl rfl (by rfl) (Z.keepS hs) (by first | exact Z.Yd.loadA _ rfl Try.isAgg30 (fun _ => Z.cellsB (by first | ((repeat (first | exact List.mem_cons_self | refine List.mem_cons_of_mem _ ?_ | refine List.mem_append_right _ ?_)); done) | fail)) (by exact Try.sizeOf30) | fail "load 10.0") ?_
              refine Z.le rfl trivial ?_
              refine Z.ZO.call rfl rfl (by rfl) rfl rfl Try.call11 rfl (rv_order (some ⟨bb, off, none⟩) (some ⟨gn, 0, none⟩) m.l.length c m.l.length dn m.now m.l _ (hA.st (hs.sub (List.nil_sublist _))) rfl (by omega)) ?_
              rintro v10_1 w10_1 hy
              replace hs := hs.call hy
              clear hy
              try simp only [List.cons_append, List.nil_append, List.append_nil] at hs
              obtain ⟨gq, cq, rfl, hcq⟩ := row_form hs (j := 0) rfl (by rw [ordL_len hm.set]; omega)
              rw [ordL_len hm.set] at hs
              refine Z.lb 1 rfl ?_
              refine Z.lnil ?_
              refine Z.only [1, 2, 3, 6, 10, 11] rfl ?_
              refine Z.nthen ?_
              refine Z.seq ?_
              refine Z.seq ?_
              refine Z.region ?_
              have ez : List.replicate nd (Value.int .i64 0) = ints .i64 (List.replicate m.l.length 0) := by subst hnd; simp [ints]
              rw [ez] at hs
              subst hnd
              rw [ordL_len hm.set]
              replace hs : SX.St w [] _ [SX.Ent.row (.slice (some ⟨gq, 0, none⟩) m.l.length cq) 3 1 m.l.length (ints .i64 (natI (ordL m.l))), SX.Ent.row (.slice (some ⟨g59, 0, none⟩) m.l.length m.l.length) 3 1 m.l.length (ints .i64 (dv0 m size).out), SX.Ent.row (.slice (some ⟨gn, 0, none⟩) m.l.length dn) 3 1 m.l.length (ints .i64 (dv0 m size).b), SX.Ent.blk g6 30 #[.slice none 0 0, .slice none 0 0, .int .i64 0], SX.Ent.blk g3 30 #[.slice (some ⟨bb, off, none⟩) m.l.length c, .slice (some ⟨gn, 0, none⟩) m.l.length dn, .int .i64 m.now]] := hs
              refine Z.l rfl rfl (by rfl) (Z.keepS hs) (Z.Yd.pure rfl) ?_
              refine Z.lnil ?_
              refine Z.only [1, 2, 3, 6, 10, 11, 12] rfl ?_
              refine Z.nthen ?_
              refine Z.block ?_
              refine Z.loopk (ι := Nat) [2, 3, 6, 10, 11] rfl (fun x => [(1, [], .int .i64 (rnd 0 dem (dv0 m size) ((ordL m.l).take x)).sz), (12, [], .int .i64 (x : Int))]) (fun x wr => x ≤ m.l.length ∧ SX.St w [] wr [SX.Ent.row (.slice (some ⟨gq, 0, none⟩) m.l.length cq) 3 1 m.l.length (ints .i64 (natI (ordL m.l))), SX.Ent.row (.slice (some ⟨g59, 0, none⟩) m.l.length m.l.length) 3 1 m.l.length (ints .i64 (rnd 0 dem (dv0 m size) ((ordL m.l).take x)).out), SX.Ent.row (.slice (some ⟨gn, 0, none⟩) m.l.length dn) 3 1 m.l.length (ints .i64 (rnd 0 dem (dv0 m size) ((ordL m.l).take x)).b), SX.Ent.blk g6 30 #[.slice none 0 0, .slice none 0 0, .int .i64 0], SX.Ent.blk g3 30 #[.slice (some ⟨bb, off, none⟩) m.l.length c, .slice (some ⟨gn, 0, none⟩) m.l.length dn, .int .i64 m.now]]) (fun x => m.l.length - x) 0 (by refine ⟨?_, ?_, trivial⟩ <;> (first | rfl | (refine Z.lookv rfl ?_; simp; done) | (refine Z.lookv rfl ?_; simp; omega))) ⟨Nat.zero_le _, hs⟩ ?_
              clear hs
              rintro k w12 ⟨hk, hs⟩
              refine Z.only [1, 2, 3, 6, 10, 11, 12] rfl ?_
              refine Z.seq ?_
              refine Z.seq ?_
              refine Z.region ?_
              refine Z.lb 2 rfl ?_
              refine Z.l rfl rfl (by rfl) (Z.keepS hs) (Z.Yd.lenS rfl Try.underlying28) ?_
              refine Z.lb 1 rfl ?_
              refine Z.lnil ?_
              refine Z.only [1, 2, 3, 6, 10, 11, 12, 65] rfl ?_
              refine Z.nthen ?_
              refine Z.cond rfl (fun hc12 => ?_) (fun hc12 => ?_)
              · first
                  | (exfalso; simp at hc12 <;> omega)
                  | (
                    (try simp at hc12)
                    have hkl : k < (ordL m.l).length := by rw [ordL_len hm.set]; omega
                    have hnl : (natI (ordL m.l)).length = m.l.length := by simp [natI, ordL_len hm.set]
                    have hst := rnd_take (r := 0) (dem := dem) (s := dv0 m size) hkl
                    have hso : (rnd 0 dem (dv0 m size) ((ordL m.l).take k)).ok m dem := (dv0_ok hm hok).fold 0 fun i hi => ord_lt hm i (List.mem_of_mem_take hi)
                    have hzo := rounds_zero m size dem hm.set hkl
                    generalize hsd : rnd 0 dem (dv0 m size) ((ordL m.l).take k) = s at hs hst hso hzo ⊢
                    have hel : elt (natI (ordL m.l)) (k : Int) = ((ordL m.l)[k] : Int) := natI_elt hkl
                    have hil : (ordL m.l)[k] < m.l.length := ord_lt hm _ (List.getElem_mem _)
                    obtain ⟨i, hid⟩ : ∃ i, i = (ordL m.l)[k] := ⟨_, rfl⟩
                    rw [← hid] at hel hil hst hzo
                    have h1 := hso.og i hil
                    have h2 := hso.bg i hil
                    have h3 := hm.bd i hil
                    have h4 := (hm.set.lg hil).2.2.2.1
                    have h5 := hok.2.2.elt (i := i) (by omega)
                    have h6 := hso.sz
                    have hol := hso.ol
                    have hbl2 := hso.bl
                    obtain ⟨a1, a2, a3, a4⟩ := amt_bd hso 0 hil
                    have a5 := a4 rfl
                    have ea : amt 0 dem s i = min (min (elt dem (i : Int)) (elt s.b (i : Int))) s.sz := by
                      unfold amt
                      rw [if_pos rfl, hzo, Int.sub_zero]
                    have hcl : (ints .i64 (natI (ordL m.l)))[0 + (k : Int).toNat * 1]? = some (.int .i64 (i : Int)) := by rw [← hel]; exact Z.ints_at (by omega) (by omega)
                    refine Z.skip ?_
                    refine Z.nthen ?_
                    refine Z.seq ?_
                    refine Z.block ?_
                    refine Z.seq ?_
                    refine Z.region ?_
                    refine Z.lb 2 rfl ?_
                    refine Z.l rfl rfl (by rfl) (Z.keepS hs) (Z.Yd.elem rfl rfl Try.underlying28 Try.sizeOf3 (fun hG => ⟨(by first | omega | (have hG' := Z.gh rfl hG; simp at hG'; omega)), (by first | omega | (have hG' := Z.gh rfl hG; simp at hG'; omega))⟩)) ?_
                    refine Z.l rfl rfl (by rfl) (Z.keepS hs) (Z.Yd.load rfl Try.isAgg3 (fun _ => Z.cellR (by first | ((repeat (first | exact List.mem_cons_self | refine List.mem_cons_of_mem _ ?_ | refine List.mem_append_right _ ?_)); done) | fail) hcl)) ?_
                    refine Z.lb 1 rfl ?_
                    refine Z.lnil ?_
                    refine Z.only [1, 2, 3, 6, 10, 11, 12, 13] rfl ?_
                    refine Z.nthen ?_
                    refine Z.seq ?_
                    refine Z.drawK (fun _ => true) mixed hs ?_
                    clear hs; intro wd15 hs
                    refine Z.tb [0, 1] (by kernel_rfl) rfl ⟨_, hs, by first | (simp; done) | exact fun e he => List.mem_append_right _ he⟩ rfl ?_
                    refine Z.t 2 rfl rfl rfl (by rfl) (by kernel_rfl) ⟨_, hs, by first | (simp; done) | exact fun e he => List.mem_append_right _ he⟩ (Z.Yd.elem rfl rfl Try.underlying28 Try.sizeOf3 (fun hG => ⟨(by first | omega | (have hG' := Z.gh rfl hG; simp at hG'; omega)), (by first | omega | (have hG' := Z.gh rfl hG; simp at hG'; omega))⟩)) ?_
                    refine Z.t 3 rfl rfl rfl (by rfl) (by kernel_rfl) ⟨_, hs, by first | (simp; done) | exact fun e he => List.mem_append_right _ he⟩ (Z.Yd.load rfl Try.isAgg3 (fun _ => Z.cellS hdx rfl (by omega) (by omega))) ?_
                    refine Z.t 4 rfl rfl rfl (by rfl) (by kernel_rfl) ⟨_, hs, by first | (simp; done) | exact fun e he => List.mem_append_right _ he⟩ (Z.Yd.fieldA (m := 1) rfl (by kernel_rfl)) ?_
                    refine Z.t 5 rfl rfl rfl (by rfl) (by kernel_rfl) ⟨_, hs, by first | (simp; done) | exact fun e he => List.mem_append_right _ he⟩ (by first | exact Z.Yd.load rfl Try.isAgg28 (fun _ => Z.cellB (by first | ((repeat (first | exact List.mem_cons_self | refine List.mem_cons_of_mem _ ?_ | refine List.mem_append_right _ ?_)); done) | fail) rfl) | exact Z.Yd.load rfl Try.isAgg28 (fun _ => Z.cellO (by assumption) (by simp) (by assumption)) | fail "load 15.5") ?_
                    refine Z.tb [6] (by kernel_rfl) rfl ⟨_, hs, by first | (simp; done) | exact fun e he => List.mem_append_right _ he⟩ rfl ?_
                    refine Z.t 7 rfl rfl rfl (by rfl) (by kernel_rfl) ⟨_, hs, by first | (simp; done) | exact fun e he => List.mem_append_right _ he⟩ (Z.Yd.elem rfl rfl Try.underlying28 Try.sizeOf3 (fun hG => ⟨(by first | omega | (have hG' := Z.gh rfl hG; simp at hG'; omega)), (by first | omega | (have hG' := Z.gh rfl hG; simp at hG'; omega))⟩)) ?_
                    refine Z.t 8 rfl rfl rfl (by rfl) (by kernel_rfl) ⟨_, hs, by first | (simp; done) | exact fun e he => List.mem_append_right _ he⟩ (Z.Yd.load rfl Try.isAgg3 (fun _ => Z.cellR (by first | ((repeat (first | exact List.mem_cons_self | refine List.mem_cons_of_mem _ ?_ | refine List.mem_append_right _ ?_)); done) | fail) (Z.ints_at (by omega) (by omega)))) ?_
                    refine Z.tb [9] (by kernel_rfl) rfl ⟨_, hs, by first | (simp; done) | exact fun e he => List.mem_append_right _ he⟩ rfl ?_
                    refine Z.t 10 rfl rfl rfl (by rfl) (by kernel_rfl) ⟨_, hs, by first | (simp; done) | exact fun e he => List.mem_append_right _ he⟩ (Z.Yd.min rfl rfl) ?_
                    refine Z.tb [11] (by kernel_rfl) rfl ⟨_, hs, by first | (simp; done) | exact fun e he => List.mem_append_right _ he⟩ rfl ?_
                    refine Z.td (by rfl) (by kernel_rfl) ?_
                    refine Z.only [1, 2, 3, 6, 10, 11, 12, 13, 14] rfl ?_
                    refine Z.nthen ?_
                    refine Z.drawC [SX.Ent.blk g3 30 #[.slice (some ⟨bb, off, none⟩) m.l.length c, .slice (some ⟨gn, 0, none⟩) m.l.length dn, .int .i64 m.now]] mixed hs ?_
                    clear hs; intro wd16 hs
                    refine Z.tC1 13 [13, 15, 20] rfl rfl rfl (by rfl) (by kernel_rfl) ⟨_, hs, by first | (simp; done) | exact fun e he => List.mem_append_right _ he⟩ (Z.Yd.pure rfl) ?_
                    refine Z.tC1 14 [14, 15, 20] rfl rfl rfl (by rfl) (by kernel_rfl) ⟨_, hs, by first | (simp; done) | exact fun e he => List.mem_append_right _ he⟩ (Z.Yd.pure rfl) ?_
                    refine Z.tC1 15 [15, 20] rfl rfl rfl (by rfl) (by kernel_rfl) ⟨_, hs, by first | (simp; done) | exact fun e he => List.mem_append_right _ he⟩ (Z.Yd.sub rfl rfl (fun hG => Z.wi64 (by first | omega | (have hG' := Z.gh rfl hG; simp at hG'; omega)))) ?_
                    refine Z.twoC [SX.Ent.blk g3 30 #[.slice (some ⟨bb, off, none⟩) m.l.length c, .slice (some ⟨gn, 0, none⟩) m.l.length dn, .int .i64 m.now], SX.Ent.row (.slice (some ⟨gn, 0, none⟩) m.l.length dn) 3 1 m.l.length (ints .i64 s.b)] [19, 20] ?_
                    refine Z.tC2 0 [0, 16, 17, 18, 19, 20] rfl rfl rfl (by rfl) (by kernel_rfl) rfl ⟨_, hs, by first | (simp; done) | exact fun e he => List.mem_append_right _ he⟩ ⟨_, hs, by first | (simp; done) | exact fun e he => List.mem_append_right _ he⟩ (Z.yd2 (Z.Yd.pure rfl)) ?_
                    refine Z.tC2 1 [1, 16, 17, 18, 19, 20] rfl rfl rfl (by rfl) (by kernel_rfl) rfl ⟨_, hs, by first | (simp; done) | exact fun e he => List.mem_append_right _ he⟩ ⟨_, hs, by first | (simp; done) | exact fun e he => List.mem_append_right _ he⟩ (Z.yd2 (Z.Yd.pure rfl)) ?_
                    refine Z.tC2 2 [2, 3, 18, 19, 20] rfl rfl rfl (by rfl) (by kernel_rfl) rfl ⟨_, hs, by first | (simp; done) | exact fun e he => List.mem_append_right _ he⟩ ⟨_, hs, by first | (simp; done) | exact fun e he => List.mem_append_right _ he⟩ (Z.yd2 (Z.Yd.fieldA (m := 1) rfl (by kernel_rfl))) ?_
                    refine Z.tC2 3 [3, 18, 19, 20] rfl rfl rfl (by rfl) (by kernel_rfl) rfl ⟨_, hs, by first | (simp; done) | exact fun e he => List.mem_append_right _ he⟩ ⟨_, hs, by first | (simp; done) | exact fun e he => List.mem_append_right _ he⟩ (Z.yd2 (by first | exact Z.Yd.load rfl Try.isAgg28 (fun _ => Z.cellB (by first | ((repeat (first | exact List.mem_cons_self | refine List.mem_cons_of_mem _ ?_ | refine List.mem_append_right _ ?_)); done) | fail) rfl) | exact Z.Yd.load rfl Try.isAgg28 (fun _ => Z.cellO (by assumption) (by simp) (by assumption)) | fail "load 16.3")) ?_
                    refine Z.tC2 4 [4, 18, 19, 20] rfl rfl rfl (by rfl) (by kernel_rfl) rfl ⟨_, hs, by first | (simp; done) | exact fun e he => List.mem_append_right _ he⟩ ⟨_, hs, by first | (simp; done) | exact fun e he => List.mem_append_right _ he⟩ (Z.yd2 (Z.Yd.pure rfl)) ?_
                    refine Z.tC2 5 [5, 16, 17, 18, 19, 20] rfl rfl rfl (by rfl) (by kernel_rfl) rfl ⟨_, hs, by first | (simp; done) | exact fun e he => List.mem_append_right _ he⟩ ⟨_, hs, by first | (simp; done) | exact fun e he => List.mem_append_right _ he⟩ (Z.yd2 (Z.Yd.pure rfl)) ?_
                    refine Z.tC2 6 [6, 7, 9, 10, 12, 16, 17, 18, 19, 20] rfl rfl rfl (by rfl) (by kernel_rfl) rfl ⟨_, hs, by first | (simp; done) | exact fun e he => List.mem_append_right _ he⟩ ⟨_, hs, by first | (simp; done) | exact fun e he => List.mem_append_right _ he⟩ (Z.yd2 (Z.Yd.fieldA (m := 1) rfl (by kernel_rfl))) ?_
                    refine Z.tC2 7 [7, 9, 10, 12, 16, 17, 18, 19, 20] rfl rfl rfl (by rfl) (by kernel_rfl) rfl ⟨_, hs, by first | (simp; done) | exact fun e he => List.mem_append_right _ he⟩ ⟨_, hs, by first | (simp; done) | exact fun e he => List.mem_append_right _ he⟩ (Z.yd2 (by first | exact Z.Yd.load rfl Try.isAgg28 (fun _ => Z.cellB (by first | ((repeat (first | exact List.mem_cons_self | refine List.mem_cons_of_mem _ ?_ | refine List.mem_append_right _ ?_)); done) | fail) rfl) | exact Z.Yd.load rfl Try.isAgg28 (fun _ => Z.cellO (by assumption) (by simp) (by assumption)) | fail "load 16.7")) ?_
                    refine Z.tC2 8 [8, 9, 10, 12, 16, 17, 18, 19, 20] rfl rfl rfl (by rfl) (by kernel_rfl) rfl ⟨_, hs, by first | (simp; done) | exact fun e he => List.mem_append_right _ he⟩ ⟨_, hs, by first | (simp; done) | exact fun e he => List.mem_append_right _ he⟩ (Z.yd2 (Z.Yd.pure rfl)) ?_
                    refine Z.tC2 9 [9, 10, 12, 16, 17, 18, 19, 20] rfl rfl rfl (by rfl) (by kernel_rfl) rfl ⟨_, hs, by first | (simp; done) | exact fun e he => List.mem_append_right _ he⟩ ⟨_, hs, by first | (simp; done) | exact fun e he => List.mem_append_right _ he⟩ (Z.yd2 (Z.Yd.elem rfl rfl Try.underlying28 Try.sizeOf3 (fun hG => ⟨(by first | omega | (have hG' := Z.gh rfl hG; simp at hG'; omega)), (by first | omega | (have hG' := Z.gh rfl hG; simp at hG'; omega))⟩))) ?_
                    refine Z.tC2 10 [10, 12, 16, 17, 18, 19, 20] rfl rfl rfl (by rfl) (by kernel_rfl) rfl ⟨_, hs, by first | (simp; done) | exact fun e he => List.mem_append_right _ he⟩ ⟨_, hs, by first | (simp; done) | exact fun e he => List.mem_append_right _ he⟩ (Z.yd2 (Z.Yd.load rfl Try.isAgg3 (fun _ => Z.cellR (by first | ((repeat (first | exact List.mem_cons_self | refine List.mem_cons_of_mem _ ?_ | refine List.mem_append_right _ ?_)); done) | fail) (Z.ints_at (by omega) (by omega))))) ?_
                    refine Z.tC2 11 [11, 12, 18, 19, 20] rfl rfl rfl (by rfl) (by kernel_rfl) rfl ⟨_, hs, by first | (simp; done) | exact fun e he => List.mem_append_right _ he⟩ ⟨_, hs, by first | (simp; done) | exact fun e he => List.mem_append_right _ he⟩ (Z.yd2 (Z.Yd.pure rfl)) ?_
                    refine Z.tC2 12 [12, 18, 19, 20] rfl rfl rfl (by rfl) (by kernel_rfl) rfl ⟨_, hs, by first | (simp; done) | exact fun e he => List.mem_append_right _ he⟩ ⟨_, hs, by first | (simp; done) | exact fun e he => List.mem_append_right _ he⟩ (Z.yd2 (Z.Yd.sub rfl rfl (fun hG => Z.wi64 (by first | omega | (have hG' := Z.gh rfl hG; simp at hG'; omega))))) ?_
                    refine Z.forkC [16] rfl (by kernel_rfl) rfl ⟨⟨_, _, rfl, rfl, trivial, ?_⟩, trivial⟩
                    refine Z.ZO.quiet rfl (by rfl) (Z.keepS hs) (Z.Yd.elem rfl rfl Try.underlying28 Try.sizeOf3 (fun hG => ⟨(by first | omega | (have hG' := Z.gh rfl hG; simp at hG'; omega)), (by first | omega | (have hG' := Z.gh rfl hG; simp at hG'; omega))⟩)) ?_
                    refine Z.tkC (C := Z.lv2 _ _ [19, 20]) (i := 16) ⟨⟨_, hs, by first | (simp; done) | exact fun e he => List.mem_append_right _ he⟩, fun _ => ⟨_, hs, by first | (simp; done) | exact fun e he => List.mem_append_right _ he⟩⟩ ?_
                    refine Z.forkC [17] rfl (by kernel_rfl) rfl ⟨⟨_, _, rfl, rfl, trivial, ?_⟩, trivial⟩
                    first | refine Z.ZO.store rfl rfl hs Try.sizeOf3 rfl rfl rfl (by first | exact SX.at0 | exact SX.at1 | exact SX.at2 | exact SX.at3 | exact SX.at4 | exact SX.at5 | exact Z.at6 | exact Z.at7 | exact Z.at8 | exact Z.at9 | exact Z.at10 | exact Z.at11 | exact Z.at12) (by first | (simp; done) | (simp; omega)) ?_ | refine Z.ZO.storeR rfl rfl hs Try.sizeOf3 rfl rfl rfl (by first | exact SX.at0 | exact SX.at1 | exact SX.at2 | exact SX.at3 | exact SX.at4 | exact SX.at5 | exact Z.at6 | exact Z.at7 | exact Z.at8 | exact Z.at9 | exact Z.at10 | exact Z.at11 | exact Z.at12) (by first | omega | (simp [ints_length]; done) | (simp [ints_length]; omega)) ?_
                    clear hs; intro ws hs
                    simp only [Nat.zero_add, Nat.add_zero, Nat.reduceAdd, Int.reduceToNat, Nat.reduceMul, List.set_cons_zero, List.set_cons_succ, List.setIfInBounds_toArray] at hs
                    refine Z.tkC (C := Z.lv2 _ _ [19, 20]) (i := 17) ⟨⟨_, hs, by first | (simp; done) | exact fun e he => List.mem_append_right _ he⟩, fun _ => ⟨_, hs, by first | (simp; done) | exact fun e he => List.mem_append_right _ he⟩⟩ ?_
                    refine Z.forkC [18] rfl (by kernel_rfl) rfl ⟨⟨_, _, rfl, rfl, trivial, ?_⟩, trivial⟩
                    refine Z.ZO.quiet rfl (by rfl) (Z.keepS hs) (Z.Yd.elem rfl rfl Try.underlying28 Try.sizeOf3 (fun hG => ⟨(by first | omega | (have hG' := Z.gh rfl hG; simp at hG'; omega)), (by first | omega | (have hG' := Z.gh rfl hG; simp at hG'; omega))⟩)) ?_
                    refine Z.tkC (C := Z.lv2 _ _ [19, 20]) (i := 18) ⟨⟨_, hs, by first | (simp; done) | exact fun e he => List.mem_append_right _ he⟩, fun _ => ⟨_, hs, by first | (simp; done) | exact fun e he => List.mem_append_right _ he⟩⟩ ?_
                    refine Z.forkC [19] rfl (by kernel_rfl) rfl ⟨⟨_, _, rfl, rfl, trivial, ?_⟩, trivial⟩
                    first | refine Z.ZO.store rfl rfl hs Try.sizeOf3 rfl rfl rfl (by first | exact SX.at0 | exact SX.at1 | exact SX.at2 | exact SX.at3 | exact SX.at4 | exact SX.at5 | exact Z.at6 | exact Z.at7 | exact Z.at8 | exact Z.at9 | exact Z.at10 | exact Z.at11 | exact Z.at12) (by first | (simp; done) | (simp; omega)) ?_ | refine Z.ZO.storeR rfl rfl hs Try.sizeOf3 rfl rfl rfl (by first | exact SX.at0 | exact SX.at1 | exact SX.at2 | exact SX.at3 | exact SX.at4 | exact SX.at5 | exact Z.at6 | exact Z.at7 | exact Z.at8 | exact Z.at9 | exact Z.at10 | exact Z.at11 | exact Z.at12) (by first | omega | (simp [ints_length]; done) | (simp [ints_length]; omega)) ?_
                    clear hs; intro ws hs
                    simp only [Nat.zero_add, Nat.add_zero, Nat.reduceAdd, Int.reduceToNat, Nat.reduceMul, List.set_cons_zero, List.set_cons_succ, List.setIfInBounds_toArray] at hs
                    refine Z.tkC (C := Z.lv2 _ _ [19, 20]) (i := 19) ⟨⟨_, hs, by first | (simp; done) | exact fun e he => List.mem_append_right _ he⟩, fun h => absurd h (by decide)⟩ ?_
                    refine Z.forkC [20] rfl (by kernel_rfl) rfl ⟨⟨_, _, rfl, rfl, trivial, ?_⟩, trivial⟩
                    refine Z.ZO.quiet rfl (by rfl) (Z.keepS hs) (Z.Yd.pure rfl) ?_
                    refine Z.tkC (C := Z.lv2 _ _ [19, 20]) (i := 20) ⟨⟨_, hs, by first | (simp; done) | exact fun e he => List.mem_append_right _ he⟩, fun h => absurd h (by decide)⟩ ?_
                    refine Z.tdC (by rfl) (by kernel_rfl) ?_
                    refine Z.only [1, 2, 3, 6, 10, 11, 12] rfl ?_
                    refine Z.nblock ?_
                    refine Z.nthen ?_
                    refine Z.region ?_
                    rw [Int.toNat_natCast, Nat.mul_one, ← ea] at hs
                    have eo : (ints .i64 s.out).set i (.int .i64 (amt 0 dem s i)) = ints .i64 (dst 0 dem s i).out := by simp only [ints, dst, hzo, Int.zero_add, List.map_set]
                    have eb : (ints .i64 s.b).set i (.int .i64 (elt s.b (i : Int) - amt 0 dem s i)) = ints .i64 (dst 0 dem s i).b := by simp only [ints, dst, if_true, List.map_set]
                    rw [eo, eb] at hs
                    refine Z.l rfl rfl (by rfl) (Z.keepS hs) (Z.Yd.pure rfl) ?_
                    refine Z.l rfl rfl (by rfl) (Z.keepS hs) (Z.Yd.add rfl rfl (fun hG => Z.wi64 (by first | omega | (have hG' := Z.gh rfl hG; simp at hG'; omega)))) ?_
                    refine Z.lb 1 rfl ?_
                    refine Z.lnil ?_
                    refine Z.only [1, 2, 3, 6, 10, 11, 12] rfl ?_
                    refine Z.nthen ?_
                    exact Z.again (k + 1) (by refine ⟨?_, ?_, ?_, ?_, ?_, ?_, ?_, trivial⟩ <;> first | rfl | (rw [hst]; refine Z.lookv rfl ?_; rw [← ea]; rfl)) ⟨by omega, by rw [hst]; exact hs⟩ (by omega)
                    )
              · first
                  | (exfalso; simp at hc12 <;> omega)
                  | (
                    (try simp at hc12)
                    refine Z.exit ?_
                    refine Z.xthen ?_
                    refine Z.xthen ?_
                    refine Z.xblock ?_
                    refine Z.nthen ?_
                    refine Z.seq ?_
                    refine Z.seq ?_
                    refine Z.region ?_
                    have hkk : (ordL m.l).take k = ordL m.l := List.take_of_length_le (by rw [ordL_len hm.set]; omega)
                    rw [hkk] at hs
                    rw [hkk]
                    replace hs : SX.St w [] _ [SX.Ent.row (.slice (some ⟨gq, 0, none⟩) m.l.length cq) 3 1 m.l.length (ints .i64 (natI (ordL m.l))), SX.Ent.row (.slice (some ⟨g59, 0, none⟩) m.l.length m.l.length) 3 1 m.l.length (ints .i64 (rounds m size dem 1).out), SX.Ent.row (.slice (some ⟨gn, 0, none⟩) m.l.length dn) 3 1 m.l.length (ints .i64 (rounds m size dem 1).b), SX.Ent.blk g6 _ _, SX.Ent.blk g3 _ _] := hs
                    refine Z.l rfl rfl (by rfl) (Z.keepS hs) (Z.Yd.pure rfl) ?_
                    refine Z.lnil ?_
                    refine Z.only [1, 2, 3, 6, 10, 11, 15] rfl ?_
                    refine Z.nthen ?_
                    refine Z.block ?_
                    refine Z.loopk (ι := Nat) [2, 3, 6, 10, 11] rfl (fun x => [(1, [], .int .i64 (rnd 1 dem (rounds m size dem 1) ((ordL m.l).take x)).sz), (15, [], .int .i64 (x : Int))]) (fun x wr => x ≤ m.l.length ∧ SX.St w [] wr [SX.Ent.row (.slice (some ⟨gq, 0, none⟩) m.l.length cq) 3 1 m.l.length (ints .i64 (natI (ordL m.l))), SX.Ent.row (.slice (some ⟨g59, 0, none⟩) m.l.length m.l.length) 3 1 m.l.length (ints .i64 (rnd 1 dem (rounds m size dem 1) ((ordL m.l).take x)).out), SX.Ent.row (.slice (some ⟨gn, 0, none⟩) m.l.length dn) 3 1 m.l.length (ints .i64 (rounds m size dem 1).b), SX.Ent.blk g6 30 #[.slice none 0 0, .slice none 0 0, .int .i64 0], SX.Ent.blk g3 30 #[.slice (some ⟨bb, off, none⟩) m.l.length c, .slice (some ⟨gn, 0, none⟩) m.l.length dn, .int .i64 m.now]]) (fun x => m.l.length - x) 0 (by refine ⟨?_, ?_, trivial⟩ <;> (first | rfl | (refine Z.lookv rfl ?_; simp; done) | (refine Z.lookv rfl ?_; simp; omega))) ⟨Nat.zero_le _, hs⟩ ?_
                    clear hs
                    rintro k w18 ⟨hk, hs⟩
                    refine Z.only [1, 2, 3, 6, 10, 11, 15] rfl ?_
                    refine Z.seq ?_
                    refine Z.seq ?_
                    refine Z.region ?_
                    refine Z.lb 2 rfl ?_
                    refine Z.l rfl rfl (by rfl) (Z.keepS hs) (Z.Yd.lenS rfl Try.underlying28) ?_
                    refine Z.lb 1 rfl ?_
                    refine Z.lnil ?_
                    refine Z.only [1, 2, 3, 6, 10, 11, 15, 104] rfl ?_
                    refine Z.nthen ?_
                    refine Z.cond rfl (fun hc18 => ?_) (fun hc18 => ?_)
                    · first
                        | (exfalso; simp at hc18 <;> omega)
                        | (
                          (try simp at hc18)
                          have hkl : k < (ordL m.l).length := by rw [ordL_len hm.set]; omega
                          have hnl : (natI (ordL m.l)).length = m.l.length := by simp [natI, ordL_len hm.set]
                          have hst := rnd_take (r := 1) (dem := dem) (s := rounds m size dem 1) hkl
                          have hso : (rnd 1 dem (rounds m size dem 1) ((ordL m.l).take k)).ok m dem := (rounds_ok hm hok 1).fold 1 fun i hi => ord_lt hm i (List.mem_of_mem_take hi)
                          generalize hsd : rnd 1 dem (rounds m size dem 1) ((ordL m.l).take k) = s at hs hst hso ⊢
                          have hel : elt (natI (ordL m.l)) (k : Int) = ((ordL m.l)[k] : Int) := natI_elt hkl
                          have hil : (ordL m.l)[k] < m.l.length := ord_lt hm _ (List.getElem_mem _)
                          obtain ⟨i, hid⟩ : ∃ i, i = (ordL m.l)[k] := ⟨_, rfl⟩
                          rw [← hid] at hel hil hst
                          have h1 := hso.og i hil
                          have h5 := hok.2.2.elt (i := i) (by omega)
                          have h6 := hso.sz
                          have hol := hso.ol
                          obtain ⟨a1, a2, a3, a4⟩ := amt_bd hso 1 hil
                          have ea : amt 1 dem s i = min (elt dem (i : Int) - elt s.out (i : Int)) s.sz := rfl
                          have hcl : (ints .i64 (natI (ordL m.l)))[0 + (k : Int).toNat * 1]? = some (.int .i64 (i : Int)) := by rw [← hel]; exact Z.ints_at (by omega) (by omega)
                          refine Z.skip ?_
                          refine Z.nthen ?_
                          refine Z.seq ?_
                          refine Z.block ?_
                          refine Z.seq ?_
                          refine Z.region ?_
                          refine Z.lb 2 rfl ?_
                          refine Z.l rfl rfl (by rfl) (Z.keepS hs) (Z.Yd.elem rfl rfl Try.underlying28 Try.sizeOf3 (fun hG => ⟨(by first | omega | (have hG' := Z.gh rfl hG; simp at hG'; omega)), (by first | omega | (have hG' := Z.gh rfl hG; simp at hG'; omega))⟩)) ?_
                          refine Z.l rfl rfl (by rfl) (Z.keepS hs) (Z.Yd.load rfl Try.isAgg3 (fun _ => Z.cellR (by first | ((repeat (first | exact List.mem_cons_self | refine List.mem_cons_of_mem _ ?_ | refine List.mem_append_right _ ?_)); done) | fail) hcl)) ?_
                          refine Z.lb 1 rfl ?_
                          refine Z.lnil ?_
                          refine Z.only [1, 2, 3, 6, 10, 11, 15, 16] rfl ?_
                          refine Z.nthen ?_
                          refine Z.seq ?_
                          refine Z.drawK (fun _ => true) mixed hs ?_
                          clear hs; intro wd21 hs
                          refine Z.tb [0, 1] (by kernel_rfl) rfl ⟨_, hs, by first | (simp; done) | exact fun e he => List.mem_append_right _ he⟩ rfl ?_
                          refine Z.t 2 rfl rfl rfl (by rfl) (by kernel_rfl) ⟨_, hs, by first | (simp; done) | exact fun e he => List.mem_append_right _ he⟩ (Z.Yd.elem rfl rfl Try.underlying28 Try.sizeOf3 (fun hG => ⟨(by first | omega | (have hG' := Z.gh rfl hG; simp at hG'; omega)), (by first | omega | (have hG' := Z.gh rfl hG; simp at hG'; omega))⟩)) ?_
                          refine Z.t 3 rfl rfl rfl (by rfl) (by kernel_rfl) ⟨_, hs, by first | (simp; done) | exact fun e he => List.mem_append_right _ he⟩ (Z.Yd.load rfl Try.isAgg3 (fun _ => Z.cellS hdx rfl (by omega) (by omega))) ?_
                          refine Z.tb [4, 5] (by kernel_rfl) rfl ⟨_, hs, by first | (simp; done) | exact fun e he => List.mem_append_right _ he⟩ rfl ?_
                          refine Z.t 6 rfl rfl rfl (by rfl) (by kernel_rfl) ⟨_, hs, by first | (simp; done) | exact fun e he => List.mem_append_right _ he⟩ (Z.Yd.elem rfl rfl Try.underlying28 Try.sizeOf3 (fun hG => ⟨(by first | omega | (have hG' := Z.gh rfl hG; simp at hG'; omega)), (by first | omega | (have hG' := Z.gh rfl hG; simp at hG'; omega))⟩)) ?_
                          refine Z.t 7 rfl rfl rfl (by rfl) (by kernel_rfl) ⟨_, hs, by first | (simp; done) | exact fun e he => List.mem_append_right _ he⟩ (Z.Yd.load rfl Try.isAgg3 (fun _ => Z.cellR (by first | ((repeat (first | exact List.mem_cons_self | refine List.mem_cons_of_mem _ ?_ | refine List.mem_append_right _ ?_)); done) | fail) (Z.ints_at (by omega) (by omega)))) ?_
                          refine Z.t 8 rfl rfl rfl (by rfl) (by kernel_rfl) ⟨_, hs, by first | (simp; done) | exact fun e he => List.mem_append_right _ he⟩ (Z.Yd.sub rfl rfl (fun hG => Z.wi64 (by first | omega | (have hG' := Z.gh rfl hG; simp at hG'; omega)))) ?_
                          refine Z.tb [9] (by kernel_rfl) rfl ⟨_, hs, by first | (simp; done) | exact fun e he => List.mem_append_right _ he⟩ rfl ?_
                          refine Z.t 10 rfl rfl rfl (by rfl) (by kernel_rfl) ⟨_, hs, by first | (simp; done) | exact fun e he => List.mem_append_right _ he⟩ (Z.Yd.min rfl rfl) ?_
                          refine Z.tb [11] (by kernel_rfl) rfl ⟨_, hs, by first | (simp; done) | exact fun e he => List.mem_append_right _ he⟩ rfl ?_
                          refine Z.td (by rfl) (by kernel_rfl) ?_
                          refine Z.only [1, 2, 3, 6, 10, 11, 15, 16, 17] rfl ?_
                          refine Z.nthen ?_
                          refine Z.region ?_
                          refine Z.lb 4 rfl ?_
                          refine Z.l rfl rfl (by rfl) (Z.keepS hs) (Z.Yd.elem rfl rfl Try.underlying28 Try.sizeOf3 (fun hG => ⟨(by first | omega | (have hG' := Z.gh rfl hG; simp at hG'; omega)), (by first | omega | (have hG' := Z.gh rfl hG; simp at hG'; omega))⟩)) ?_
                          refine Z.l rfl rfl (by rfl) (Z.keepS hs) (Z.Yd.load rfl Try.isAgg3 (fun _ => Z.cellR (by first | ((repeat (first | exact List.mem_cons_self | refine List.mem_cons_of_mem _ ?_ | refine List.mem_append_right _ ?_)); done) | fail) (Z.ints_at (by omega) (by omega)))) ?_
                          refine Z.lb 1 rfl ?_
                          refine Z.l rfl rfl (by rfl) (Z.keepS hs) (Z.Yd.add rfl rfl (fun hG => Z.wi64 (by first | omega | (have hG' := Z.gh rfl hG; simp at hG'; omega)))) ?_
                          refine Z.lb 2 rfl ?_
                          refine Z.l rfl rfl (by rfl) (Z.keepS hs) (Z.Yd.sub rfl rfl (fun hG => Z.wi64 (by first | omega | (have hG' := Z.gh rfl hG; simp at hG'; omega)))) ?_
                          refine Z.l rfl rfl (by rfl) (Z.keepS hs) (Z.Yd.elem rfl rfl Try.underlying28 Try.sizeOf3 (fun hG => ⟨(by first | omega | (have hG' := Z.gh rfl hG; simp at hG'; omega)), (by first | omega | (have hG' := Z.gh rfl hG; simp at hG'; omega))⟩)) ?_
                          refine Z.le rfl trivial ?_
                          first | refine Z.ZO.store rfl rfl hs Try.sizeOf3 rfl rfl rfl (by first | exact SX.at0 | exact SX.at1 | exact SX.at2 | exact SX.at3 | exact SX.at4 | exact SX.at5 | exact Z.at6 | exact Z.at7 | exact Z.at8 | exact Z.at9 | exact Z.at10 | exact Z.at11 | exact Z.at12) (by first | (simp; done) | (simp; omega)) ?_ | refine Z.ZO.storeR rfl rfl hs Try.sizeOf3 rfl rfl rfl (by first | exact SX.at0 | exact SX.at1 | exact SX.at2 | exact SX.at3 | exact SX.at4 | exact SX.at5 | exact Z.at6 | exact Z.at7 | exact Z.at8 | exact Z.at9 | exact Z.at10 | exact Z.at11 | exact Z.at12) (by first | omega | (simp [ints_length]; done) | (simp [ints_length]; omega)) ?_
                          clear hs; intro ws hs
                          simp only [Nat.zero_add, Nat.add_zero, Nat.reduceAdd, Int.reduceToNat, Nat.reduceMul, List.set_cons_zero, List.set_cons_succ, List.setIfInBounds_toArray] at hs
                          refine Z.lb 1 rfl ?_
                          refine Z.lnil ?_
                          refine Z.only [1, 2, 3, 6, 10, 11, 15] rfl ?_
                          refine Z.nblock ?_
                          refine Z.nthen ?_
                          refine Z.region ?_
                          rw [Int.toNat_natCast, Nat.mul_one, ← ea] at hs
                          have eo : (ints .i64 s.out).set i (.int .i64 (elt s.out (i : Int) + amt 1 dem s i)) = ints .i64 (dst 1 dem s i).out := by simp only [ints, dst, List.map_set]
                          rw [eo] at hs
                          refine Z.l rfl rfl (by rfl) (Z.keepS hs) (Z.Yd.pure rfl) ?_
                          refine Z.l rfl rfl (by rfl) (Z.keepS hs) (Z.Yd.add rfl rfl (fun hG => Z.wi64 (by first | omega | (have hG' := Z.gh rfl hG; simp at hG'; omega)))) ?_
                          refine Z.lb 1 rfl ?_
                          refine Z.lnil ?_
                          refine Z.only [1, 2, 3, 6, 10, 11, 15] rfl ?_
                          refine Z.nthen ?_
                          exact Z.again (k + 1) (by refine ⟨?_, ?_, ?_, ?_, ?_, ?_, ?_, trivial⟩ <;> first | rfl | (rw [hst]; rfl)) ⟨by omega, by rw [hst]; exact hs⟩ (by omega)
                          )
                    · first
                        | (exfalso; simp at hc18 <;> omega)
                        | (
                          (try simp at hc18)
                          refine Z.exit ?_
                          refine Z.xthen ?_
                          refine Z.xthen ?_
                          refine Z.xblock ?_
                          refine Z.nthen ?_
                          refine Z.seq ?_
                          refine Z.region ?_
                          have hkk : (ordL m.l).take k = ordL m.l := List.take_of_length_le (by rw [ordL_len hm.set]; omega)
                          rw [hkk] at hs
                          have hol2 := (rounds_ok hm hok 2).ol
                          have hb2 : (rounds m size dem 1).b = (rounds m size dem 2).b := rnd1_b.symm
                          rw [hb2] at hs
                          replace hs : SX.St w [] _ [SX.Ent.row (.slice (some ⟨gq, 0, none⟩) m.l.length cq) 3 1 m.l.length (ints .i64 (natI (ordL m.l))), SX.Ent.row (.slice (some ⟨g59, 0, none⟩) m.l.length m.l.length) 3 1 m.l.length (ints .i64 (rounds m size dem 2).out), SX.Ent.row (.slice (some ⟨gn, 0, none⟩) m.l.length dn) 3 1 m.l.length (ints .i64 (rounds m size dem 2).b), SX.Ent.blk g6 _ _, SX.Ent.blk g3 _ _] := hs
                          refine Z.l rfl rfl (by rfl) (Z.keepS hs) (by first | exact Z.Yd.loadA _ rfl Try.isAgg30 (fun _ => Z.cellsB (by first | ((repeat (first | exact List.mem_cons_self | refine List.mem_cons_of_mem _ ?_ | refine List.mem_append_right _ ?_)); done) | fail)) (by exact Try.sizeOf30) | fail "load 23.0") ?_
                          refine Z.lb 1 rfl ?_
                          refine Z.le rfl trivial ?_
                          first | refine Z.ZO.storeA rfl rfl hs rfl rfl (by kernel_rfl) (by first | (simp [Value.oneCell']; done) | (refine Z.all_one ?_; assumption)) (by first | exact SX.at0 | exact SX.at1 | exact SX.at2 | exact SX.at3 | exact SX.at4 | exact SX.at5 | exact Z.at6 | exact Z.at7 | exact Z.at8 | exact Z.at9 | exact Z.at10 | exact Z.at11 | exact Z.at12) (by rfl) ?_ | refine Z.ZO.storeP rfl rfl hs rfl rfl (by kernel_rfl) (by first | (simp [Value.oneCell']; done) | (refine Z.all_one ?_; assumption)) (by first | exact SX.at0 | exact SX.at1 | exact SX.at2 | exact SX.at3 | exact SX.at4 | exact SX.at5 | exact Z.at6 | exact Z.at7 | exact Z.at8 | exact Z.at9 | exact Z.at10 | exact Z.at11 | exact Z.at12) (by first | decide | (simp; done) | (simp; omega)) ?_ | refine Z.ZO.storePR rfl rfl hs rfl rfl (by kernel_rfl) (by first | (simp [Value.oneCell']; done) | (refine Z.all_one ?_; assumption)) (by first | exact SX.at0 | exact SX.at1 | exact SX.at2 | exact SX.at3 | exact SX.at4 | exact SX.at5 | exact Z.at6 | exact Z.at7 | exact Z.at8 | exact Z.at9 | exact Z.at10 | exact Z.at11 | exact Z.at12) (by first | decide | (simp; done) | (simp; omega)) ?_
                          clear hs; intro ws hs
                          simp only [Nat.zero_add, Nat.add_zero, Nat.reduceAdd, Int.reduceToNat, Nat.reduceMul, List.set_cons_zero, List.set_cons_succ, List.setIfInBounds_toArray] at hs
                          try simp only [Z.putL, Nat.zero_add] at hs
                          refine Z.lb 2 rfl ?_
                          refine Z.lnil ?_
                          refine Z.only [6, 7, 8] rfl ?_
                          refine Z.nthen ?_
                          refine Z.ret ?_
                          -- ret#2
                          refine Z.out3 (by exact ⟨⟨_, rfl, Z.rvcA hs Try.isAgg30 (by first | ((repeat (first | exact List.mem_cons_self | refine List.mem_cons_of_mem _ ?_ | refine List.mem_append_right _ ?_)); done) | fail) (by exact Try.sizeOf30)⟩, rfl, rfl, trivial⟩) ?_
                          exact ⟨_, rfl, _, _, .slice (some ⟨g59, 0, none⟩) m.l.length m.l.length, [SX.Ent.row _ 3 1 m.l.length (ints .i64 (rounds m size dem 2).b)], by rw [eD], by rw [eD]; dsimp only; rw [hol2]; exact hs.sel [1, 2] (by decide), .inl (by rw [eD])⟩
                          )
                    )
              )
        )
theorem rv_same (A B A' B' : Option Addr) (c d c' d' : Nat) (m k : BkV) (w : World) (hA : Sl w A (m.l.flatMap LgV.cells)) (hB : Sl w B (ints .i64 m.b)) (hA' : Sl w A' (k.l.flatMap LgV.cells)) (hB' : Sl w B' (ints .i64 k.b)) (hm : m.ok) (hk : k.ok) :
    Calls Try.prog 23 #[.agg #[.slice A m.l.length c, .slice B m.l.length d, .int .i64 m.now], .agg #[.slice A' k.l.length c', .slice B' k.l.length d', .int .i64 k.now]] w (SX.Ret fun v w' => v = .bool (decide (m = k)) ∧ SX.St w [] w' []) := by
  have hs := SX.St.start w
  have hpos := hm.pos
  have hpos' := hk.pos
  have hbl := hm.len
  have hbl' := hk.len
  obtain ⟨bb, off, rfl, hb0, hx2⟩ := Z.Sl.some hA (by rw [flat_len lg_len]; omega)
  obtain ⟨bo, offo, rfl, hbo0, hxo⟩ := Z.Sl.some hB (by rw [ints_length]; omega)
  obtain ⟨cb, coff, rfl, hcb0, hy2⟩ := Z.Sl.some hA' (by rw [flat_len lg_len]; omega)
  obtain ⟨co, coffo, rfl, hco0, hyo⟩ := Z.Sl.some hB' (by rw [ints_length]; omega)
  refine Z.enter Try.func23 rfl Try.ntmps23 rfl rfl ?_
  refine Z.seq ?_
  refine Z.region ?_
  refine Z.le rfl trivial ?_
  refine Z.ZO.box rfl rfl (by rfl) rfl rfl hs ?_
  clear hs; intro g2 w2 hs
  refine Z.le rfl trivial ?_
  refine Z.ZO.box rfl rfl (by rfl) rfl rfl hs ?_
  clear hs; intro g3 w3 hs
  refine Z.lb 1 rfl ?_
  refine Z.lnil ?_
  refine Z.only [2, 3] rfl ?_
  refine Z.nthen ?_
  refine Z.seq ?_
  refine Z.seq ?_
  refine Z.region ?_
  refine Z.l rfl rfl (by rfl) (Z.keepS hs) (Z.Yd.fieldA (m := 0) rfl (by kernel_rfl)) ?_
  refine Z.l rfl rfl (by rfl) (Z.keepS hs) (by first | exact Z.Yd.load rfl Try.isAgg22 (fun _ => Z.cellB (by first | ((repeat (first | exact List.mem_cons_self | refine List.mem_cons_of_mem _ ?_ | refine List.mem_append_right _ ?_)); done) | fail) rfl) | exact Z.Yd.load rfl Try.isAgg22 (fun _ => Z.cellO (by assumption) (by simp) (by assumption)) | fail "load 1.1") ?_
  refine Z.l rfl rfl (by rfl) (Z.keepS hs) (Z.Yd.lenS rfl Try.underlying22) ?_
  refine Z.l rfl rfl (by rfl) (Z.keepS hs) (Z.Yd.fieldA (m := 0) rfl (by kernel_rfl)) ?_
  refine Z.l rfl rfl (by rfl) (Z.keepS hs) (by first | exact Z.Yd.load rfl Try.isAgg22 (fun _ => Z.cellB (by first | ((repeat (first | exact List.mem_cons_self | refine List.mem_cons_of_mem _ ?_ | refine List.mem_append_right _ ?_)); done) | fail) rfl) | exact Z.Yd.load rfl Try.isAgg22 (fun _ => Z.cellO (by assumption) (by simp) (by assumption)) | fail "load 1.4") ?_
  refine Z.l rfl rfl (by rfl) (Z.keepS hs) (Z.Yd.lenS rfl Try.underlying22) ?_
  refine Z.lb 2 rfl ?_
  refine Z.split (s := 13) rfl (fun hsp13 => ?_) (fun hsp13 => ?_)
  · first
      | (exfalso; simp at hsp13 <;> omega)
      | (
        refine Z.yes (s := 13) (b := true) rfl hsp13 rfl ?_
        (try simp at hsp13)
        refine Z.ls rfl rfl rfl (by rfl) ?_
        refine Z.ls rfl rfl rfl (by rfl) ?_
        refine Z.ls rfl rfl rfl (by rfl) ?_
        refine Z.ls rfl rfl rfl (by rfl) ?_
        refine Z.ls rfl rfl rfl (by rfl) ?_
        refine Z.l rfl rfl (by rfl) (Z.keepS hs) (Z.Yd.pickT rfl rfl) ?_
        refine Z.lnil ?_
        refine Z.only [2, 3, 19] rfl ?_
        refine Z.nthen ?_
        refine Z.cond rfl (fun hc1 => ?_) (fun hc1 => ?_)
        · first
            | (exfalso; simp at hc1 <;> omega)
            | (
              (try simp at hc1)
              have hne : ¬ m = k := by rintro rfl; omega
              refine Z.seq ?_
              refine Z.region ?_
              refine Z.lb 1 rfl ?_
              refine Z.lnil ?_
              refine Z.only [4] rfl ?_
              refine Z.nthen ?_
              refine Z.ret ?_
              repeat (first | refine Z.rthen ?_ | refine Z.rblock ?_ | refine Z.rscope ?_)
              -- ret#0
              refine Z.out1 (by exact ⟨rfl, trivial⟩) ?_
              first
              | exact ⟨_, rfl, by rw [decide_eq_false hne], hs.sub (List.nil_sublist _)⟩
              | (rw [List.take_of_length_le (by omega), List.take_of_length_le (by omega)] at h1 h2
                 have he : m = k := by cases m; cases k; simp_all
                 exact ⟨_, rfl, by rw [decide_eq_true he], hs.sub (List.nil_sublist _)⟩)
              )
        · first
            | (exfalso; simp at hc1 <;> omega)
            | (
              (try simp at hc1)
              have hnk : m.l.length = k.l.length := by omega
              have hnw : m.now = k.now := by omega
              refine Z.skip ?_
              refine Z.nthen ?_
              refine Z.seq ?_
              refine Z.seq ?_
              refine Z.region ?_
              refine Z.lb 1 rfl ?_
              refine Z.lnil ?_
              refine Z.only [2, 3, 5] rfl ?_
              refine Z.nthen ?_
              refine Z.block ?_
              refine Z.loopk (ι := Nat) [2, 3] rfl (fun i => [(5, [], .int .i64 (i : Int))]) (fun i wr => (i ≤ m.l.length ∧ m.l.take i = k.l.take i ∧ m.b.take i = k.b.take i) ∧ SX.St w [] wr [SX.Ent.blk g3 30 #[.slice (some ⟨cb, coff, none⟩) k.l.length c', .slice (some ⟨co, coffo, none⟩) k.l.length d', .int .i64 k.now], SX.Ent.blk g2 30 #[.slice (some ⟨bb, off, none⟩) m.l.length c, .slice (some ⟨bo, offo, none⟩) m.l.length d, .int .i64 m.now]]) (fun i => m.l.length - i) 0 (by refine ⟨?_, trivial⟩ <;> (first | rfl | (refine Z.lookv rfl ?_; simp; done) | (refine Z.lookv rfl ?_; simp; omega))) ⟨⟨by omega, rfl, rfl⟩, hs⟩ ?_
              clear hs
              rintro i w4 ⟨⟨hi, h1, h2⟩, hs⟩
              refine Z.only [2, 3, 5] rfl ?_
              refine Z.seq ?_
              refine Z.seq ?_
              refine Z.region ?_
              refine Z.lb 1 rfl ?_
              refine Z.l rfl rfl (by rfl) (Z.keepS hs) (Z.Yd.fieldA (m := 0) rfl (by kernel_rfl)) ?_
              refine Z.l rfl rfl (by rfl) (Z.keepS hs) (by first | exact Z.Yd.load rfl Try.isAgg22 (fun _ => Z.cellB (by first | ((repeat (first | exact List.mem_cons_self | refine List.mem_cons_of_mem _ ?_ | refine List.mem_append_right _ ?_)); done) | fail) rfl) | exact Z.Yd.load rfl Try.isAgg22 (fun _ => Z.cellO (by assumption) (by simp) (by assumption)) | fail "load 4.2") ?_
              refine Z.l rfl rfl (by rfl) (Z.keepS hs) (Z.Yd.lenS rfl Try.underlying22) ?_
              refine Z.lb 1 rfl ?_
              refine Z.lnil ?_
              refine Z.only [2, 3, 5, 24] rfl ?_
              refine Z.nthen ?_
              refine Z.cond rfl (fun hc4 => ?_) (fun hc4 => ?_)
              · first
                  | (exfalso; simp at hc4 <;> omega)
                  | (
                    (try simp at hc4)
                    have hlt : i < m.l.length := by omega
                    have hlt' : i < k.l.length := by omega
                    have hel : m.l[i]? = some m.l[i] := List.getElem?_eq_getElem hlt
                    have hel' : k.l[i]? = some k.l[i] := List.getElem?_eq_getElem hlt'
                    have heb : m.b[i]? = some (elt m.b (i : Int)) := by rw [elt_get (by omega)]; exact List.getElem?_eq_getElem (by omega)
                    have heb' : k.b[i]? = some (elt k.b (i : Int)) := by rw [elt_get (by omega)]; exact List.getElem?_eq_getElem (by omega)
                    generalize m.l[i] = x at hel
                    generalize k.l[i] = y at hel'
                    refine Z.skip ?_
                    refine Z.nthen ?_
                    refine Z.seq ?_
                    refine Z.block ?_
                    refine Z.seq ?_
                    refine Z.drawK (fun _ => true) mixed hs ?_
                    clear hs; intro wd6 hs
                    refine Z.t 0 rfl rfl rfl (by rfl) (by kernel_rfl) ⟨_, hs, by first | (simp; done) | exact fun e he => List.mem_append_right _ he⟩ (Z.Yd.fieldA (m := 0) rfl (by kernel_rfl)) ?_
                    refine Z.t 1 rfl rfl rfl (by rfl) (by kernel_rfl) ⟨_, hs, by first | (simp; done) | exact fun e he => List.mem_append_right _ he⟩ (by first | exact Z.Yd.load rfl Try.isAgg22 (fun _ => Z.cellB (by first | ((repeat (first | exact List.mem_cons_self | refine List.mem_cons_of_mem _ ?_ | refine List.mem_append_right _ ?_)); done) | fail) rfl) | exact Z.Yd.load rfl Try.isAgg22 (fun _ => Z.cellO (by assumption) (by simp) (by assumption)) | fail "load 6.1") ?_
                    refine Z.tb [2] (by kernel_rfl) rfl ⟨_, hs, by first | (simp; done) | exact fun e he => List.mem_append_right _ he⟩ rfl ?_
                    refine Z.t 3 rfl rfl rfl (by rfl) (by kernel_rfl) ⟨_, hs, by first | (simp; done) | exact fun e he => List.mem_append_right _ he⟩ (Z.Yd.elem rfl rfl Try.underlying22 Try.sizeOf38 (fun hG => ⟨(by first | omega | (have hG' := Z.gh rfl hG; simp at hG'; omega)), (by first | omega | (have hG' := Z.gh rfl hG; simp at hG'; omega))⟩)) ?_
                    refine Z.t 4 rfl rfl rfl (by rfl) (by kernel_rfl) ⟨_, hs, by first | (simp; done) | exact fun e he => List.mem_append_right _ he⟩ (Z.Yd.loadA _ rfl Try.isAgg38 (fun _ W hK j u hu => Z.cellXq (enc := LgV.cells) hx2.sx lg_len hel hu W hK) (by exact Try.sizeOf38)) ?_
                    refine Z.t 5 rfl rfl rfl (by rfl) (by kernel_rfl) ⟨_, hs, by first | (simp; done) | exact fun e he => List.mem_append_right _ he⟩ (Z.Yd.fieldA (m := 0) rfl (by kernel_rfl)) ?_
                    refine Z.t 6 rfl rfl rfl (by rfl) (by kernel_rfl) ⟨_, hs, by first | (simp; done) | exact fun e he => List.mem_append_right _ he⟩ (by first | exact Z.Yd.load rfl Try.isAgg22 (fun _ => Z.cellB (by first | ((repeat (first | exact List.mem_cons_self | refine List.mem_cons_of_mem _ ?_ | refine List.mem_append_right _ ?_)); done) | fail) rfl) | exact Z.Yd.load rfl Try.isAgg22 (fun _ => Z.cellO (by assumption) (by simp) (by assumption)) | fail "load 6.6") ?_
                    refine Z.tb [7] (by kernel_rfl) rfl ⟨_, hs, by first | (simp; done) | exact fun e he => List.mem_append_right _ he⟩ rfl ?_
                    refine Z.t 8 rfl rfl rfl (by rfl) (by kernel_rfl) ⟨_, hs, by first | (simp; done) | exact fun e he => List.mem_append_right _ he⟩ (Z.Yd.elem rfl rfl Try.underlying22 Try.sizeOf38 (fun hG => ⟨(by first | omega | (have hG' := Z.gh rfl hG; simp at hG'; omega)), (by first | omega | (have hG' := Z.gh rfl hG; simp at hG'; omega))⟩)) ?_
                    refine Z.t 9 rfl rfl rfl (by rfl) (by kernel_rfl) ⟨_, hs, by first | (simp; done) | exact fun e he => List.mem_append_right _ he⟩ (Z.Yd.loadA _ rfl Try.isAgg38 (fun _ W hK j u hu => Z.cellXq (enc := LgV.cells) hy2.sx lg_len hel' hu W hK) (by exact Try.sizeOf38)) ?_
                    refine Z.t 10 rfl rfl rfl (by rfl) (by kernel_rfl) ⟨_, hs, by first | (simp; done) | exact fun e he => List.mem_append_right _ he⟩ (Z.Yd.neA (.st (.fc 0 1 (.i) (.fc 1 1 (.i) (.fc 2 1 (.i) (.fc 3 1 (.i) (.fc 4 1 (.i) (.fn))))))) rfl rfl rfl rfl (by kernel_rfl) (by kernel_rfl) rfl) ?_
                    refine Z.tb [11] (by kernel_rfl) rfl ⟨_, hs, by first | (simp; done) | exact fun e he => List.mem_append_right _ he⟩ rfl ?_
                    refine Z.t 12 rfl rfl rfl (by rfl) (by kernel_rfl) ⟨_, hs, by first | (simp; done) | exact fun e he => List.mem_append_right _ he⟩ (Z.Yd.fieldA (m := 1) rfl (by kernel_rfl)) ?_
                    refine Z.t 13 rfl rfl rfl (by rfl) (by kernel_rfl) ⟨_, hs, by first | (simp; done) | exact fun e he => List.mem_append_right _ he⟩ (by first | exact Z.Yd.load rfl Try.isAgg28 (fun _ => Z.cellB (by first | ((repeat (first | exact List.mem_cons_self | refine List.mem_cons_of_mem _ ?_ | refine List.mem_append_right _ ?_)); done) | fail) rfl) | exact Z.Yd.load rfl Try.isAgg28 (fun _ => Z.cellO (by assumption) (by simp) (by assumption)) | fail "load 6.13") ?_
                    refine Z.tb [14] (by kernel_rfl) rfl ⟨_, hs, by first | (simp; done) | exact fun e he => List.mem_append_right _ he⟩ rfl ?_
                    refine Z.t 15 rfl rfl rfl (by rfl) (by kernel_rfl) ⟨_, hs, by first | (simp; done) | exact fun e he => List.mem_append_right _ he⟩ (Z.Yd.elem rfl rfl Try.underlying28 Try.sizeOf3 (fun hG => ⟨(by first | omega | (have hG' := Z.gh rfl hG; simp at hG'; omega)), (by first | omega | (have hG' := Z.gh rfl hG; simp at hG'; omega))⟩)) ?_
                    refine Z.t 16 rfl rfl rfl (by rfl) (by kernel_rfl) ⟨_, hs, by first | (simp; done) | exact fun e he => List.mem_append_right _ he⟩ (Z.Yd.load rfl Try.isAgg3 (fun _ => Z.cellS hxo rfl (by omega) (by omega))) ?_
                    refine Z.t 17 rfl rfl rfl (by rfl) (by kernel_rfl) ⟨_, hs, by first | (simp; done) | exact fun e he => List.mem_append_right _ he⟩ (Z.Yd.fieldA (m := 1) rfl (by kernel_rfl)) ?_
                    refine Z.t 18 rfl rfl rfl (by rfl) (by kernel_rfl) ⟨_, hs, by first | (simp; done) | exact fun e he => List.mem_append_right _ he⟩ (by first | exact Z.Yd.load rfl Try.isAgg28 (fun _ => Z.cellB (by first | ((repeat (first | exact List.mem_cons_self | refine List.mem_cons_of_mem _ ?_ | refine List.mem_append_right _ ?_)); done) | fail) rfl) | exact Z.Yd.load rfl Try.isAgg28 (fun _ => Z.cellO (by assumption) (by simp) (by assumption)) | fail "load 6.18") ?_
                    refine Z.tb [19] (by kernel_rfl) rfl ⟨_, hs, by first | (simp; done) | exact fun e he => List.mem_append_right _ he⟩ rfl ?_
                    refine Z.t 20 rfl rfl rfl (by rfl) (by kernel_rfl) ⟨_, hs, by first | (simp; done) | exact fun e he => List.mem_append_right _ he⟩ (Z.Yd.elem rfl rfl Try.underlying28 Try.sizeOf3 (fun hG => ⟨(by first | omega | (have hG' := Z.gh rfl hG; simp at hG'; omega)), (by first | omega | (have hG' := Z.gh rfl hG; simp at hG'; omega))⟩)) ?_
                    refine Z.t 21 rfl rfl rfl (by rfl) (by kernel_rfl) ⟨_, hs, by first | (simp; done) | exact fun e he => List.mem_append_right _ he⟩ (Z.Yd.load rfl Try.isAgg3 (fun _ => Z.cellS hyo rfl (by omega) (by omega))) ?_
                    refine Z.tb [22, 23] (by kernel_rfl) rfl ⟨_, hs, by first | (simp; done) | exact fun e he => List.mem_append_right _ he⟩ rfl ?_
                    refine Z.td (by rfl) (by kernel_rfl) ?_
                    refine Z.only [2, 3, 5, 50] rfl ?_
                    refine Z.nthen ?_
                    refine Z.cond rfl (fun hc6 => ?_) (fun hc6 => ?_)
                    · first
                        | (exfalso; simp at hc6 <;> omega)
                        | (
                          (try simp at hc6)
                          have hne : ¬ m = k := by
                            rintro rfl
                            rw [hel'] at hel
                            obtain rfl := Option.some.inj hel
                            simp at hc6
                          refine Z.seq ?_
                          refine Z.region ?_
                          refine Z.lb 1 rfl ?_
                          refine Z.lnil ?_
                          refine Z.only [4] rfl ?_
                          refine Z.nthen ?_
                          refine Z.ret ?_
                          repeat (first | refine Z.rthen ?_ | refine Z.rblock ?_ | refine Z.rscope ?_)
                          -- ret#1
                          refine Z.out1 (by exact ⟨rfl, trivial⟩) ?_
                          first
                          | exact ⟨_, rfl, by rw [decide_eq_false hne], hs.sub (List.nil_sublist _)⟩
                          | (rw [List.take_of_length_le (by omega), List.take_of_length_le (by omega)] at h1 h2
                             have he : m = k := by cases m; cases k; simp_all
                             exact ⟨_, rfl, by rw [decide_eq_true he], hs.sub (List.nil_sublist _)⟩)
                          )
                    · first
                        | (exfalso; simp at hc6 <;> omega)
                        | (
                          (try simp at hc6)
                          have hxy : x = y ∧ elt m.b (i : Int) = elt k.b (i : Int) := by
                            obtain ⟨⟩ := x
                            obtain ⟨⟩ := y
                            simp_all
                          refine Z.skip ?_
                          refine Z.nblock ?_
                          refine Z.nthen ?_
                          refine Z.region ?_
                          refine Z.lb 1 rfl ?_
                          refine Z.l rfl rfl (by rfl) (Z.keepS hs) (Z.Yd.add rfl rfl (fun hG => Z.wi64 (by first | omega | (have hG' := Z.gh rfl hG; simp at hG'; omega)))) ?_
                          refine Z.lb 1 rfl ?_
                          refine Z.lnil ?_
                          refine Z.only [2, 3, 5] rfl ?_
                          refine Z.nthen ?_
                          refine Z.again (i + 1) (by refine ⟨?_, ?_, ?_, trivial⟩ <;> (first | rfl | (refine Z.lookv rfl ?_; simp; done) | (refine Z.lookv rfl ?_; simp; omega))) ⟨⟨by omega, ?_, ?_⟩, hs⟩ (by omega)
                          · rw [List.take_add_one, List.take_add_one, hel, hel', h1, hxy.1]
                          · rw [List.take_add_one, List.take_add_one, heb, heb', h2, hxy.2]
                          )
                    )
              · first
                  | (exfalso; simp at hc4 <;> omega)
                  | (
                    (try simp at hc4)
                    refine Z.exit ?_
                    refine Z.xthen ?_
                    refine Z.xthen ?_
                    refine Z.xblock ?_
                    refine Z.nthen ?_
                    refine Z.seq ?_
                    refine Z.region ?_
                    refine Z.lb 1 rfl ?_
                    refine Z.lnil ?_
                    refine Z.only [4] rfl ?_
                    refine Z.nthen ?_
                    refine Z.ret ?_
                    -- ret#2
                    refine Z.out1 (by exact ⟨rfl, trivial⟩) ?_
                    first
                    | exact ⟨_, rfl, by rw [decide_eq_false hne], hs.sub (List.nil_sublist _)⟩
                    | (rw [List.take_of_length_le (by omega), List.take_of_length_le (by omega)] at h1 h2
                       have he : m = k := by cases m; cases k; simp_all
                       exact ⟨_, rfl, by rw [decide_eq_true he], hs.sub (List.nil_sublist _)⟩)
                    )
              )
        )
  · first
      | (exfalso; simp at hsp13 <;> omega)
      | (
        refine Z.yes (s := 13) (b := false) rfl hsp13 rfl ?_
        (try simp at hsp13)
        refine Z.l rfl rfl (by rfl) (Z.keepS hs) (Z.Yd.fieldA (m := 2) rfl (by kernel_rfl)) ?_
        refine Z.l rfl rfl (by rfl) (Z.keepS hs) (by first | exact Z.Yd.load rfl Try.isAgg3 (fun _ => Z.cellB (by first | ((repeat (first | exact List.mem_cons_self | refine List.mem_cons_of_mem _ ?_ | refine List.mem_append_right _ ?_)); done) | fail) rfl) | exact Z.Yd.load rfl Try.isAgg3 (fun _ => Z.cellO (by assumption) (by simp) (by assumption)) | fail "load 1.9") ?_
        refine Z.l rfl rfl (by rfl) (Z.keepS hs) (Z.Yd.fieldA (m := 2) rfl (by kernel_rfl)) ?_
        refine Z.l rfl rfl (by rfl) (Z.keepS hs) (by first | exact Z.Yd.load rfl Try.isAgg3 (fun _ => Z.cellB (by first | ((repeat (first | exact List.mem_cons_self | refine List.mem_cons_of_mem _ ?_ | refine List.mem_append_right _ ?_)); done) | fail) rfl) | exact Z.Yd.load rfl Try.isAgg3 (fun _ => Z.cellO (by assumption) (by simp) (by assumption)) | fail "load 1.11") ?_
        refine Z.lb 1 rfl ?_
        refine Z.yes (s := 13) (b := false) rfl rfl rfl ?_
        refine Z.l rfl rfl (by rfl) (Z.keepS hs) (Z.Yd.pickF rfl rfl) ?_
        refine Z.lnil ?_
        refine Z.only [2, 3, 19] rfl ?_
        refine Z.nthen ?_
        refine Z.cond rfl (fun hc1 => ?_) (fun hc1 => ?_)
        · first
            | (exfalso; simp at hc1 <;> omega)
            | (
              (try simp at hc1)
              have hne : ¬ m = k := by rintro rfl; omega
              refine Z.seq ?_
              refine Z.region ?_
              refine Z.lb 1 rfl ?_
              refine Z.lnil ?_
              refine Z.only [4] rfl ?_
              refine Z.nthen ?_
              refine Z.ret ?_
              repeat (first | refine Z.rthen ?_ | refine Z.rblock ?_ | refine Z.rscope ?_)
              -- ret#3
              refine Z.out1 (by exact ⟨rfl, trivial⟩) ?_
              first
              | exact ⟨_, rfl, by rw [decide_eq_false hne], hs.sub (List.nil_sublist _)⟩
              | (rw [List.take_of_length_le (by omega), List.take_of_length_le (by omega)] at h1 h2
                 have he : m = k := by cases m; cases k; simp_all
                 exact ⟨_, rfl, by rw [decide_eq_true he], hs.sub (List.nil_sublist _)⟩)
              )
        · first
            | (exfalso; simp at hc1 <;> omega)
            | (
              (try simp at hc1)
              have hnk : m.l.length = k.l.length := by omega
              have hnw : m.now = k.now := by omega
              refine Z.skip ?_
              refine Z.nthen ?_
              refine Z.seq ?_
              refine Z.seq ?_
              refine Z.region ?_
              refine Z.lb 1 rfl ?_
              refine Z.lnil ?_
              refine Z.only [2, 3, 5] rfl ?_
              refine Z.nthen ?_
              refine Z.block ?_
              refine Z.loopk (ι := Nat) [2, 3] rfl (fun i => [(5, [], .int .i64 (i : Int))]) (fun i wr => (i ≤ m.l.length ∧ m.l.take i = k.l.take i ∧ m.b.take i = k.b.take i) ∧ SX.St w [] wr [SX.Ent.blk g3 30 #[.slice (some ⟨cb, coff, none⟩) k.l.length c', .slice (some ⟨co, coffo, none⟩) k.l.length d', .int .i64 k.now], SX.Ent.blk g2 30 #[.slice (some ⟨bb, off, none⟩) m.l.length c, .slice (some ⟨bo, offo, none⟩) m.l.length d, .int .i64 m.now]]) (fun i => m.l.length - i) 0 (by refine ⟨?_, trivial⟩ <;> (first | rfl | (refine Z.lookv rfl ?_; simp; done) | (refine Z.lookv rfl ?_; simp; omega))) ⟨⟨by omega, rfl, rfl⟩, hs⟩ ?_
              clear hs
              rintro i w4 ⟨⟨hi, h1, h2⟩, hs⟩
              refine Z.only [2, 3, 5] rfl ?_
              refine Z.seq ?_
              refine Z.seq ?_
              refine Z.region ?_
              refine Z.lb 1 rfl ?_
              refine Z.l rfl rfl (by rfl) (Z.keepS hs) (Z.Yd.fieldA (m := 0) rfl (by kernel_rfl)) ?_
              refine Z.l rfl rfl (by rfl) (Z.keepS hs) (by first | exact Z.Yd.load rfl Try.isAgg22 (fun _ => Z.cellB (by first | ((repeat (first | exact List.mem_cons_self | refine List.mem_cons_of_mem _ ?_ | refine List.mem_append_right _ ?_)); done) | fail) rfl) | exact Z.Yd.load rfl Try.isAgg22 (fun _ => Z.cellO (by assumption) (by simp) (by assumption)) | fail "load 4.2") ?_
              refine Z.l rfl rfl (by rfl) (Z.keepS hs) (Z.Yd.lenS rfl Try.underlying22) ?_
              refine Z.lb 1 rfl ?_
              refine Z.lnil ?_
              refine Z.only [2, 3, 5, 24] rfl ?_
              refine Z.nthen ?_
              refine Z.cond rfl (fun hc4 => ?_) (fun hc4 => ?_)
              · first
                  | (exfalso; simp at hc4 <;> omega)
                  | (
                    (try simp at hc4)
                    have hlt : i < m.l.length := by omega
                    have hlt' : i < k.l.length := by omega
                    have hel : m.l[i]? = some m.l[i] := List.getElem?_eq_getElem hlt
                    have hel' : k.l[i]? = some k.l[i] := List.getElem?_eq_getElem hlt'
                    have heb : m.b[i]? = some (elt m.b (i : Int)) := by rw [elt_get (by omega)]; exact List.getElem?_eq_getElem (by omega)
                    have heb' : k.b[i]? = some (elt k.b (i : Int)) := by rw [elt_get (by omega)]; exact List.getElem?_eq_getElem (by omega)
                    generalize m.l[i] = x at hel
                    generalize k.l[i] = y at hel'
                    refine Z.skip ?_
                    refine Z.nthen ?_
                    refine Z.seq ?_
                    refine Z.block ?_
                    refine Z.seq ?_
                    refine Z.drawK (fun _ => true) mixed hs ?_
                    clear hs; intro wd6 hs
                    refine Z.t 0 rfl rfl rfl (by rfl) (by kernel_rfl) ⟨_, hs, by first | (simp; done) | exact fun e he => List.mem_append_right _ he⟩ (Z.Yd.fieldA (m := 0) rfl (by kernel_rfl)) ?_
                    refine Z.t 1 rfl rfl rfl (by rfl) (by kernel_rfl) ⟨_, hs, by first | (simp; done) | exact fun e he => List.mem_append_right _ he⟩ (by first | exact Z.Yd.load rfl Try.isAgg22 (fun _ => Z.cellB (by first | ((repeat (first | exact List.mem_cons_self | refine List.mem_cons_of_mem _ ?_ | refine List.mem_append_right _ ?_)); done) | fail) rfl) | exact Z.Yd.load rfl Try.isAgg22 (fun _ => Z.cellO (by assumption) (by simp) (by assumption)) | fail "load 6.1") ?_
                    refine Z.tb [2] (by kernel_rfl) rfl ⟨_, hs, by first | (simp; done) | exact fun e he => List.mem_append_right _ he⟩ rfl ?_
                    refine Z.t 3 rfl rfl rfl (by rfl) (by kernel_rfl) ⟨_, hs, by first | (simp; done) | exact fun e he => List.mem_append_right _ he⟩ (Z.Yd.elem rfl rfl Try.underlying22 Try.sizeOf38 (fun hG => ⟨(by first | omega | (have hG' := Z.gh rfl hG; simp at hG'; omega)), (by first | omega | (have hG' := Z.gh rfl hG; simp at hG'; omega))⟩)) ?_
                    refine Z.t 4 rfl rfl rfl (by rfl) (by kernel_rfl) ⟨_, hs, by first | (simp; done) | exact fun e he => List.mem_append_right _ he⟩ (Z.Yd.loadA _ rfl Try.isAgg38 (fun _ W hK j u hu => Z.cellXq (enc := LgV.cells) hx2.sx lg_len hel hu W hK) (by exact Try.sizeOf38)) ?_
                    refine Z.t 5 rfl rfl rfl (by rfl) (by kernel_rfl) ⟨_, hs, by first | (simp; done) | exact fun e he => List.mem_append_right _ he⟩ (Z.Yd.fieldA (m := 0) rfl (by kernel_rfl)) ?_
                    refine Z.t 6 rfl rfl rfl (by rfl) (by kernel_rfl) ⟨_, hs, by first | (simp; done) | exact fun e he => List.mem_append_right _ he⟩ (by first | exact Z.Yd.load rfl Try.isAgg22 (fun _ => Z.cellB (by first | ((repeat (first | exact List.mem_cons_self | refine List.mem_cons_of_mem _ ?_ | refine List.mem_append_right _ ?_)); done) | fail) rfl) | exact Z.Yd.load rfl Try.isAgg22 (fun _ => Z.cellO (by assumption) (by simp) (by assumption)) | fail "load 6.6") ?_
                    refine Z.tb [7] (by kernel_rfl) rfl ⟨_, hs, by first | (simp; done) | exact fun e he => List.mem_append_right _ he⟩ rfl ?_
                    refine Z.t 8 rfl rfl rfl (by rfl) (by kernel_rfl) ⟨_, hs, by first | (simp; done) | exact fun e he => List.mem_append_right _ he⟩ (Z.Yd.elem rfl rfl Try.underlying22 Try.sizeOf38 (fun hG => ⟨(by first | omega | (have hG' := Z.gh rfl hG; simp at hG'; omega)), (by first | omega | (have hG' := Z.gh rfl hG; simp at hG'; omega))⟩)) ?_
                    refine Z.t 9 rfl rfl rfl (by rfl) (by kernel_rfl) ⟨_, hs, by first | (simp; done) | exact fun e he => List.mem_append_right _ he⟩ (Z.Yd.loadA _ rfl Try.isAgg38 (fun _ W hK j u hu => Z.cellXq (enc := LgV.cells) hy2.sx lg_len hel' hu W hK) (by exact Try.sizeOf38)) ?_
                    refine Z.t 10 rfl rfl rfl (by rfl) (by kernel_rfl) ⟨_, hs, by first | (simp; done) | exact fun e he => List.mem_append_right _ he⟩ (Z.Yd.neA (.st (.fc 0 1 (.i) (.fc 1 1 (.i) (.fc 2 1 (.i) (.fc 3 1 (.i) (.fc 4 1 (.i) (.fn))))))) rfl rfl rfl rfl (by kernel_rfl) (by kernel_rfl) rfl) ?_
                    refine Z.tb [11] (by kernel_rfl) rfl ⟨_, hs, by first | (simp; done) | exact fun e he => List.mem_append_right _ he⟩ rfl ?_
                    refine Z.t 12 rfl rfl rfl (by rfl) (by kernel_rfl) ⟨_, hs, by first | (simp; done) | exact fun e he => List.mem_append_right _ he⟩ (Z.Yd.fieldA (m := 1) rfl (by kernel_rfl)) ?_
                    refine Z.t 13 rfl rfl rfl (by rfl) (by kernel_rfl) ⟨_, hs, by first | (simp; done) | exact fun e he => List.mem_append_right _ he⟩ (by first | exact Z.Yd.load rfl Try.isAgg28 (fun _ => Z.cellB (by first | ((repeat (first | exact List.mem_cons_self | refine List.mem_cons_of_mem _ ?_ | refine List.mem_append_right _ ?_)); done) | fail) rfl) | exact Z.Yd.load rfl Try.isAgg28 (fun _ => Z.cellO (by assumption) (by simp) (by assumption)) | fail "load 6.13") ?_
                    refine Z.tb [14] (by kernel_rfl) rfl ⟨_, hs, by first | (simp; done) | exact fun e he => List.mem_append_right _ he⟩ rfl ?_
                    refine Z.t 15 rfl rfl rfl (by rfl) (by kernel_rfl) ⟨_, hs, by first | (simp; done) | exact fun e he => List.mem_append_right _ he⟩ (Z.Yd.elem rfl rfl Try.underlying28 Try.sizeOf3 (fun hG => ⟨(by first | omega | (have hG' := Z.gh rfl hG; simp at hG'; omega)), (by first | omega | (have hG' := Z.gh rfl hG; simp at hG'; omega))⟩)) ?_
                    refine Z.t 16 rfl rfl rfl (by rfl) (by kernel_rfl) ⟨_, hs, by first | (simp; done) | exact fun e he => List.mem_append_right _ he⟩ (Z.Yd.load rfl Try.isAgg3 (fun _ => Z.cellS hxo rfl (by omega) (by omega))) ?_
                    refine Z.t 17 rfl rfl rfl (by rfl) (by kernel_rfl) ⟨_, hs, by first | (simp; done) | exact fun e he => List.mem_append_right _ he⟩ (Z.Yd.fieldA (m := 1) rfl (by kernel_rfl)) ?_
                    refine Z.t 18 rfl rfl rfl (by rfl) (by kernel_rfl) ⟨_, hs, by first | (simp; done) | exact fun e he => List.mem_append_right _ he⟩ (by first | exact Z.Yd.load rfl Try.isAgg28 (fun _ => Z.cellB (by first | ((repeat (first | exact List.mem_cons_self | refine List.mem_cons_of_mem _ ?_ | refine List.mem_append_right _ ?_)); done) | fail) rfl) | exact Z.Yd.load rfl Try.isAgg28 (fun _ => Z.cellO (by assumption) (by simp) (by assumption)) | fail "load 6.18") ?_
                    refine Z.tb [19] (by kernel_rfl) rfl ⟨_, hs, by first | (simp; done) | exact fun e he => List.mem_append_right _ he⟩ rfl ?_
                    refine Z.t 20 rfl rfl rfl (by rfl) (by kernel_rfl) ⟨_, hs, by first | (simp; done) | exact fun e he => List.mem_append_right _ he⟩ (Z.Yd.elem rfl rfl Try.underlying28 Try.sizeOf3 (fun hG => ⟨(by first | omega | (have hG' := Z.gh rfl hG; simp at hG'; omega)), (by first | omega | (have hG' := Z.gh rfl hG; simp at hG'; omega))⟩)) ?_
                    refine Z.t 21 rfl rfl rfl (by rfl) (by kernel_rfl) ⟨_, hs, by first | (simp; done) | exact fun e he => List.mem_append_right _ he⟩ (Z.Yd.load rfl Try.isAgg3 (fun _ => Z.cellS hyo rfl (by omega) (by omega))) ?_
                    refine Z.tb [22, 23] (by kernel_rfl) rfl ⟨_, hs, by first | (simp; done) | exact fun e he => List.mem_append_right _ he⟩ rfl ?_
                    refine Z.td (by rfl) (by kernel_rfl) ?_
                    refine Z.only [2, 3, 5, 50] rfl ?_
                    refine Z.nthen ?_
                    refine Z.cond rfl (fun hc6 => ?_) (fun hc6 => ?_)
                    · first
                        | (exfalso; simp at hc6 <;> omega)
                        | (
                          (try simp at hc6)
                          have hne : ¬ m = k := by
                            rintro rfl
                            rw [hel'] at hel
                            obtain rfl := Option.some.inj hel
                            simp at hc6
                          refine Z.seq ?_
                          refine Z.region ?_
                          refine Z.lb 1 rfl ?_
                          refine Z.lnil ?_
                          refine Z.only [4] rfl ?_
                          refine Z.nthen ?_
                          refine Z.ret ?_
                          repeat (first | refine Z.rthen ?_ | refine Z.rblock ?_ | refine Z.rscope ?_)
                          -- ret#4
                          refine Z.out1 (by exact ⟨rfl, trivial⟩) ?_
                          first
                          | exact ⟨_, rfl, by rw [decide_eq_false hne], hs.sub (List.nil_sublist _)⟩
                          | (rw [List.take_of_length_le (by omega), List.take_of_length_le (by omega)] at h1 h2
                             have he : m = k := by cases m; cases k; simp_all
                             exact ⟨_, rfl, by rw [decide_eq_true he], hs.sub (List.nil_sublist _)⟩)
                          )
                    · first
                        | (exfalso; simp at hc6 <;> omega)
                        | (
                          (try simp at hc6)
                          have hxy : x = y ∧ elt m.b (i : Int) = elt k.b (i : Int) := by
                            obtain ⟨⟩ := x
                            obtain ⟨⟩ := y
                            simp_all
                          refine Z.skip ?_
                          refine Z.nblock ?_
                          refine Z.nthen ?_
                          refine Z.region ?_
                          refine Z.lb 1 rfl ?_
                          refine Z.l rfl rfl (by rfl) (Z.keepS hs) (Z.Yd.add rfl rfl (fun hG => Z.wi64 (by first | omega | (have hG' := Z.gh rfl hG; simp at hG'; omega)))) ?_
                          refine Z.lb 1 rfl ?_
                          refine Z.lnil ?_
                          refine Z.only [2, 3, 5] rfl ?_
                          refine Z.nthen ?_
                          refine Z.again (i + 1) (by refine ⟨?_, ?_, ?_, trivial⟩ <;> (first | rfl | (refine Z.lookv rfl ?_; simp; done) | (refine Z.lookv rfl ?_; simp; omega))) ⟨⟨by omega, ?_, ?_⟩, hs⟩ (by omega)
                          · rw [List.take_add_one, List.take_add_one, hel, hel', h1, hxy.1]
                          · rw [List.take_add_one, List.take_add_one, heb, heb', h2, hxy.2]
                          )
                    )
              · first
                  | (exfalso; simp at hc4 <;> omega)
                  | (
                    (try simp at hc4)
                    refine Z.exit ?_
                    refine Z.xthen ?_
                    refine Z.xthen ?_
                    refine Z.xblock ?_
                    refine Z.nthen ?_
                    refine Z.seq ?_
                    refine Z.region ?_
                    refine Z.lb 1 rfl ?_
                    refine Z.lnil ?_
                    refine Z.only [4] rfl ?_
                    refine Z.nthen ?_
                    refine Z.ret ?_
                    -- ret#5
                    refine Z.out1 (by exact ⟨rfl, trivial⟩) ?_
                    first
                    | exact ⟨_, rfl, by rw [decide_eq_false hne], hs.sub (List.nil_sublist _)⟩
                    | (rw [List.take_of_length_le (by omega), List.take_of_length_le (by omega)] at h1 h2
                       have he : m = k := by cases m; cases k; simp_all
                       exact ⟨_, rfl, by rw [decide_eq_true he], hs.sub (List.nil_sublist _)⟩)
                    )
              )
        )
end Go.Proofs.Ythdhobnkclddhaa

/- Buckets: the law's own functions, and the examples of the chapter. -/
namespace Go.Proofs.Ythdhobnkclddhaa
open Go.RowKit
set_option linter.unusedSimpArgs false
set_option linter.unusedVariables false
--newlaws

theorem bk_num (e : Int) (w : World) : Calls Try.prog 15 #[.int .i64 e] w (SX.Ret fun v w' => v = .int .i64 e ∧ SX.St w [] w' []) := by
  have hs := SX.St.start w
  refine Z.enter Try.func15 rfl Try.ntmps15 rfl rfl ?_
  refine Z.seq ?_
  refine Z.region ?_
  refine Z.lb 1 rfl ?_
  refine Z.lnil ?_
  refine Z.only [0] rfl ?_
  refine Z.nthen ?_
  refine Z.seq ?_
  refine Z.region ?_
  refine Z.lb 2 rfl ?_
  refine Z.lnil ?_
  refine Z.only [2] rfl ?_
  refine Z.nthen ?_
  refine Z.ret ?_
  -- ret#0
  refine Z.out1 (by exact ⟨rfl, trivial⟩) ?_
  first | exact ⟨_, rfl, rfl, hs⟩ | exact ⟨_, rfl, rfl, hs.sub (List.nil_sublist _)⟩
theorem bk_lev (g : Nat) (m : BkV) (id n : Int) (has : Bool) (w : World) (hr : BkR w g m) (hm : m.ok) : Calls Try.prog 24 #[.pointer (some ⟨g, 0, none⟩), .int .i64 id, .int .i64 n, .bool has] w (SX.Ret fun v w' => v = .bool (decide (lvV m id = (n, has))) ∧ SX.St w [] w' []) := by
  have hs := SX.St.start w
  refine Z.enter Try.func24 rfl Try.ntmps24 rfl rfl ?_
  refine Z.seq ?_
  refine Z.region ?_
  refine Z.lb 1 rfl ?_
  refine Z.lnil ?_
  refine Z.only [0, 1, 2, 3] rfl ?_
  refine Z.nthen ?_
  refine Z.seq ?_
  refine Z.region ?_
  refine Z.lb 2 rfl ?_
  refine Z.le rfl trivial ?_
  refine Z.ZO.call rfl rfl (by rfl) rfl rfl Try.call17 rfl (bk_level g m id _ hr hm) ?_
  rintro v1_2 w1_2 ⟨rfl, hy⟩
  replace hs := hs.call hy
  clear hy
  try simp only [List.cons_append, List.nil_append, List.append_nil] at hs
  refine Z.lb 5 rfl ?_
  refine Z.lnil ?_
  refine Z.only [2, 3, 9, 10] rfl ?_
  refine Z.nthen ?_
  refine Z.seq ?_
  refine Z.region ?_
  refine Z.lb 6 rfl ?_
  refine Z.l rfl rfl (by rfl) (Z.keepS hs) (Z.Yd.bin rfl rfl (by intro _ w; go_simp; try rfl)) ?_
  refine Z.lb 2 rfl ?_
  refine Z.lnil ?_
  refine Z.only [8] rfl ?_
  refine Z.nthen ?_
  refine Z.ret ?_
  -- ret#0
  refine Z.out1 (by exact ⟨rfl, trivial⟩) ?_
  refine ⟨_, rfl, ?_, hs⟩
  congr 1
  rw [Bool.eq_iff_iff]
  simp [Prod.ext_iff]
theorem bk_sameI (A B : Option Addr) (n c k d : Nat) (xs ys : List Int) (w : World) (hA : Sl w A (ints .i64 xs)) (hB : Sl w B (ints .i64 ys)) (hl : xs.length = n) (hk : ys.length = k) (hn : n ≤ 1000) :
    Calls Try.prog 26 #[.slice A n c, .slice B k d] w (SX.Ret fun v w' => v = .bool (decide (xs = ys)) ∧ SX.St w [] w' []) := by
  have hs := SX.St.start w
  refine Z.enter Try.func26 rfl Try.ntmps26 rfl rfl ?_
  refine Z.seq ?_
  refine Z.region ?_
  refine Z.lb 1 rfl ?_
  refine Z.lnil ?_
  refine Z.only [0, 1] rfl ?_
  refine Z.nthen ?_
  refine Z.seq ?_
  refine Z.seq ?_
  refine Z.region ?_
  refine Z.lb 1 rfl ?_
  refine Z.l rfl rfl (by rfl) (Z.keepS hs) (Z.Yd.lenS rfl Try.underlying28) ?_
  refine Z.lb 1 rfl ?_
  refine Z.l rfl rfl (by rfl) (Z.keepS hs) (Z.Yd.lenS rfl Try.underlying28) ?_
  refine Z.lb 1 rfl ?_
  refine Z.lnil ?_
  refine Z.only [0, 1, 10] rfl ?_
  refine Z.nthen ?_
  refine Z.cond rfl (fun hc1 => ?_) (fun hc1 => ?_)
  · first
      | (exfalso; simp at hc1 <;> omega)
      | (
        (try simp at hc1)
        have hne : ¬ xs = ys := fun h => by subst h; omega
        refine Z.seq ?_
        refine Z.region ?_
        refine Z.lb 1 rfl ?_
        refine Z.lnil ?_
        refine Z.only [4] rfl ?_
        refine Z.nthen ?_
        refine Z.ret ?_
        repeat (first | refine Z.rthen ?_ | refine Z.rblock ?_ | refine Z.rscope ?_)
        -- ret#0
        refine Z.out1 (by exact ⟨rfl, trivial⟩) ?_
        first
        | exact ⟨_, rfl, by rw [decide_eq_false hne], hs⟩
        | (rw [List.take_of_length_le (by omega), List.take_of_length_le (by omega)] at ht
           exact ⟨_, rfl, by rw [decide_eq_true ht], hs⟩)
        )
  · first
      | (exfalso; simp at hc1 <;> omega)
      | (
        (try simp at hc1)
        have hnk : n = k := by omega
        refine Z.skip ?_
        refine Z.nthen ?_
        refine Z.seq ?_
        refine Z.seq ?_
        refine Z.region ?_
        refine Z.lb 1 rfl ?_
        refine Z.lnil ?_
        refine Z.only [0, 1, 5] rfl ?_
        refine Z.nthen ?_
        refine Z.block ?_
        refine Z.loopk (ι := Nat) [0, 1] rfl (fun i => [(5, [], .int .i64 (i : Int))]) (fun i wr => (i ≤ n ∧ xs.take i = ys.take i) ∧ SX.St w [] wr []) (fun i => n - i) 0 (by refine ⟨?_, trivial⟩ <;> (first | rfl | (refine Z.lookv rfl ?_; simp; done) | (refine Z.lookv rfl ?_; simp; omega))) ⟨⟨by omega, rfl⟩, hs⟩ ?_
        clear hs
        rintro i w4 ⟨⟨hi, ht⟩, hs⟩
        refine Z.only [0, 1, 5] rfl ?_
        refine Z.seq ?_
        refine Z.seq ?_
        refine Z.region ?_
        refine Z.lb 2 rfl ?_
        refine Z.l rfl rfl (by rfl) (Z.keepS hs) (Z.Yd.lenS rfl Try.underlying28) ?_
        refine Z.lb 1 rfl ?_
        refine Z.lnil ?_
        refine Z.only [0, 1, 5, 14] rfl ?_
        refine Z.nthen ?_
        refine Z.cond rfl (fun hc4 => ?_) (fun hc4 => ?_)
        · first
            | (exfalso; simp at hc4 <;> omega)
            | (
              (try simp at hc4)
              have hxi : xs[i]? = some (elt xs (i : Int)) := by rw [elt_get (by omega)]; exact List.getElem?_eq_getElem (by omega)
              have hyi : ys[i]? = some (elt ys (i : Int)) := by rw [elt_get (by omega)]; exact List.getElem?_eq_getElem (by omega)
              obtain ⟨b, off, rfl, hb1, hx2⟩ := Z.Sl.some hA (by rw [ints_length]; omega)
              obtain ⟨b', off', rfl, hb2, hy2⟩ := Z.Sl.some hB (by rw [ints_length]; omega)
              refine Z.skip ?_
              refine Z.nthen ?_
              refine Z.seq ?_
              refine Z.block ?_
              refine Z.seq ?_
              refine Z.drawK (fun _ => true) mixed hs ?_
              clear hs; intro wd6 hs
              refine Z.tb [0, 1] (by kernel_rfl) rfl ⟨_, hs, by first | (simp; done) | exact fun e he => List.mem_append_right _ he⟩ rfl ?_
              refine Z.t 2 rfl rfl rfl (by rfl) (by kernel_rfl) ⟨_, hs, by first | (simp; done) | exact fun e he => List.mem_append_right _ he⟩ (Z.Yd.elem rfl rfl Try.underlying28 Try.sizeOf3 (fun hG => ⟨(by first | omega | (have hG' := Z.gh rfl hG; simp at hG'; omega)), (by first | omega | (have hG' := Z.gh rfl hG; simp at hG'; omega))⟩)) ?_
              refine Z.t 3 rfl rfl rfl (by rfl) (by kernel_rfl) ⟨_, hs, by first | (simp; done) | exact fun e he => List.mem_append_right _ he⟩ (Z.Yd.load rfl Try.isAgg3 (fun _ => Z.cellS hx2 rfl (by omega) (by omega))) ?_
              refine Z.tb [4, 5] (by kernel_rfl) rfl ⟨_, hs, by first | (simp; done) | exact fun e he => List.mem_append_right _ he⟩ rfl ?_
              refine Z.t 6 rfl rfl rfl (by rfl) (by kernel_rfl) ⟨_, hs, by first | (simp; done) | exact fun e he => List.mem_append_right _ he⟩ (Z.Yd.elem rfl rfl Try.underlying28 Try.sizeOf3 (fun hG => ⟨(by first | omega | (have hG' := Z.gh rfl hG; simp at hG'; omega)), (by first | omega | (have hG' := Z.gh rfl hG; simp at hG'; omega))⟩)) ?_
              refine Z.t 7 rfl rfl rfl (by rfl) (by kernel_rfl) ⟨_, hs, by first | (simp; done) | exact fun e he => List.mem_append_right _ he⟩ (Z.Yd.load rfl Try.isAgg3 (fun _ => Z.cellS hy2 rfl (by omega) (by omega))) ?_
              refine Z.tb [8] (by kernel_rfl) rfl ⟨_, hs, by first | (simp; done) | exact fun e he => List.mem_append_right _ he⟩ rfl ?_
              refine Z.td (by rfl) (by kernel_rfl) ?_
              refine Z.only [0, 1, 5, 25] rfl ?_
              refine Z.nthen ?_
              refine Z.cond rfl (fun hc6 => ?_) (fun hc6 => ?_)
              · first
                  | (exfalso; simp at hc6 <;> omega)
                  | (
                    (try simp at hc6)
                    have hne : ¬ xs = ys := fun h => by
                      rw [h] at hc6
                      simp at hc6
                    refine Z.seq ?_
                    refine Z.region ?_
                    refine Z.lb 1 rfl ?_
                    refine Z.lnil ?_
                    refine Z.only [4] rfl ?_
                    refine Z.nthen ?_
                    refine Z.ret ?_
                    repeat (first | refine Z.rthen ?_ | refine Z.rblock ?_ | refine Z.rscope ?_)
                    -- ret#1
                    refine Z.out1 (by exact ⟨rfl, trivial⟩) ?_
                    first
                    | exact ⟨_, rfl, by rw [decide_eq_false hne], hs⟩
                    | (rw [List.take_of_length_le (by omega), List.take_of_length_le (by omega)] at ht
                       exact ⟨_, rfl, by rw [decide_eq_true ht], hs⟩)
                    )
              · first
                  | (exfalso; simp at hc6 <;> omega)
                  | (
                    (try simp at hc6)
                    refine Z.skip ?_
                    refine Z.nblock ?_
                    refine Z.nthen ?_
                    refine Z.region ?_
                    refine Z.lb 1 rfl ?_
                    refine Z.l rfl rfl (by rfl) (Z.keepS hs) (Z.Yd.add rfl rfl (fun hG => Z.wi64 (by first | omega | (have hG' := Z.gh rfl hG; simp at hG'; omega)))) ?_
                    refine Z.lb 1 rfl ?_
                    refine Z.lnil ?_
                    refine Z.only [0, 1, 5] rfl ?_
                    refine Z.nthen ?_
                    refine Z.again (i + 1) (by refine ⟨?_, ?_, ?_, trivial⟩ <;> (first | rfl | (refine Z.lookv rfl ?_; simp; done) | (refine Z.lookv rfl ?_; simp; omega))) ⟨⟨by omega, ?_⟩, hs⟩ (by omega)
                    rw [List.take_add_one, List.take_add_one, hxi, hyi, ht]
                    simp_all
                    )
              )
        · first
            | (exfalso; simp at hc4 <;> omega)
            | (
              (try simp at hc4)
              refine Z.exit ?_
              refine Z.xthen ?_
              refine Z.xthen ?_
              refine Z.xblock ?_
              refine Z.nthen ?_
              refine Z.seq ?_
              refine Z.region ?_
              refine Z.lb 1 rfl ?_
              refine Z.lnil ?_
              refine Z.only [4] rfl ?_
              refine Z.nthen ?_
              refine Z.ret ?_
              -- ret#2
              refine Z.out1 (by exact ⟨rfl, trivial⟩) ?_
              first
              | exact ⟨_, rfl, by rw [decide_eq_false hne], hs⟩
              | (rw [List.take_of_length_le (by omega), List.take_of_length_le (by omega)] at ht
                 exact ⟨_, rfl, by rw [decide_eq_true ht], hs⟩)
              )
        )
theorem bk_is (g : Nat) (A B : Option Addr) (c d : Nat) (m : BkV) (w : World) (hr : BkR w g m) (hA : Sl w A (m.l.flatMap LgV.cells)) (hB : Sl w B (ints .i64 m.b)) (hm : m.ok) :
    Calls Try.prog 21 #[.pointer (some ⟨g, 0, none⟩), .agg #[.slice A m.l.length c, .slice B m.l.length d, .int .i64 m.now]] w (SX.Ret fun v w' => v = .bool true ∧ SX.St w [] w' []) := by
  have hs := SX.St.start w
  refine Z.enter Try.func21 rfl Try.ntmps21 rfl rfl ?_
  refine Z.seq ?_
  refine Z.region ?_
  refine Z.le rfl trivial ?_
  refine Z.ZO.box rfl rfl (by rfl) rfl rfl hs ?_
  clear hs; intro g3 w3 hs
  refine Z.lb 1 rfl ?_
  refine Z.lnil ?_
  refine Z.only [0, 3] rfl ?_
  refine Z.nthen ?_
  refine Z.seq ?_
  refine Z.seq ?_
  refine Z.region ?_
  refine Z.lb 1 rfl ?_
  refine Z.lnil ?_
  refine Z.only [0, 3, 5] rfl ?_
  refine Z.nthen ?_
  refine Z.block ?_
  refine Z.loopk (ι := Nat) [0, 3] rfl (fun i => [(5, [], .int .i64 (i : Int))]) (fun i wr => i ≤ 12 ∧ SX.St w [] wr [SX.Ent.blk g3 30 #[.slice A m.l.length c, .slice B m.l.length d, .int .i64 m.now]]) (fun i => 12 - i) 0 (by refine ⟨?_, trivial⟩ <;> (first | rfl | (refine Z.lookv rfl ?_; simp; done) | (refine Z.lookv rfl ?_; simp; omega))) ⟨by omega, hs⟩ ?_
  clear hs
  rintro i w2 ⟨hi, hs⟩
  refine Z.only [0, 3, 5] rfl ?_
  refine Z.seq ?_
  refine Z.seq ?_
  refine Z.region ?_
  refine Z.lb 2 rfl ?_
  refine Z.lnil ?_
  refine Z.only [0, 3, 5, 9] rfl ?_
  refine Z.nthen ?_
  refine Z.cond rfl (fun hc2 => ?_) (fun hc2 => ?_)
  · first
      | (exfalso; simp at hc2 <;> omega)
      | (
        (try simp at hc2)
        have hlt : i < 12 := by omega
        refine Z.skip ?_
        refine Z.nthen ?_
        refine Z.seq ?_
        refine Z.block ?_
        refine Z.seq ?_
        refine Z.region ?_
        refine Z.l rfl rfl (by rfl) (Z.keepS hs) (by first | exact Z.Yd.loadA _ rfl Try.isAgg30 (fun _ => Z.cellsB (by first | ((repeat (first | exact List.mem_cons_self | refine List.mem_cons_of_mem _ ?_ | refine List.mem_append_right _ ?_)); done) | fail)) (by exact Try.sizeOf30) | fail "load 4.0") ?_
        refine Z.lb 1 rfl ?_
        refine Z.le rfl trivial ?_
        refine Z.ZO.call rfl rfl (by rfl) rfl rfl Try.call44 rfl (rv_level A B c d m (i : Int) _ (hA.st (hs.sub (List.nil_sublist _))) (hB.st (hs.sub (List.nil_sublist _))) hm) ?_
        rintro v4_2 w4_2 ⟨rfl, hy⟩
        replace hs := hs.call hy
        clear hy
        try simp only [List.cons_append, List.nil_append, List.append_nil] at hs
        refine Z.lb 5 rfl ?_
        refine Z.lnil ?_
        refine Z.only [0, 3, 5, 6, 7] rfl ?_
        refine Z.nthen ?_
        refine Z.seq ?_
        refine Z.region ?_
        refine Z.lb 4 rfl ?_
        refine Z.le rfl trivial ?_
        refine Z.ZO.call rfl rfl (by rfl) rfl rfl Try.call24 rfl (bk_lev g m (i : Int) _ _ _ (hr.st (hs.sub (List.nil_sublist _))) hm) ?_
        rintro v5_4 w5_4 ⟨rfl, hy⟩
        replace hs := hs.call hy
        clear hy
        try simp only [List.cons_append, List.nil_append, List.append_nil] at hs
        refine Z.lb 1 rfl ?_
        refine Z.lnil ?_
        refine Z.only [0, 3, 5, 23] rfl ?_
        refine Z.nthen ?_
        refine Z.cond rfl (fun h => absurd h (by simp)) (fun hc5 => ?_)
        refine Z.skip ?_
        refine Z.nblock ?_
        refine Z.nthen ?_
        refine Z.region ?_
        refine Z.lb 1 rfl ?_
        refine Z.l rfl rfl (by rfl) (Z.keepS hs) (Z.Yd.add rfl rfl (fun hG => Z.wi64 (by first | omega | (have hG' := Z.gh rfl hG; simp at hG'; omega)))) ?_
        refine Z.lb 1 rfl ?_
        refine Z.lnil ?_
        refine Z.only [0, 3, 5] rfl ?_
        refine Z.nthen ?_
        exact Z.again (i + 1) (by refine ⟨?_, ?_, ?_, trivial⟩ <;> (first | rfl | (refine Z.lookv rfl ?_; simp; done) | (refine Z.lookv rfl ?_; simp; omega))) ⟨by omega, hs⟩ (by omega)
        )
  · first
      | (exfalso; simp at hc2 <;> omega)
      | (
        (try simp at hc2)
        refine Z.exit ?_
        refine Z.xthen ?_
        refine Z.xthen ?_
        refine Z.xblock ?_
        refine Z.nthen ?_
        refine Z.seq ?_
        refine Z.drawK (fun _ => true) mixed hs ?_
        clear hs; intro wd7 hs
        refine Z.tb [0] (by kernel_rfl) rfl ⟨_, hs, by first | (simp; done) | exact fun e he => List.mem_append_right _ he⟩ rfl ?_
        refine Z.t 2 rfl rfl rfl (by rfl) (by kernel_rfl) ⟨_, hs, by first | (simp; done) | exact fun e he => List.mem_append_right _ he⟩ (Z.Yd.fieldA (m := 2) rfl (by kernel_rfl)) ?_
        refine Z.t 3 rfl rfl rfl (by rfl) (by kernel_rfl) ⟨_, hs, by first | (simp; done) | exact fun e he => List.mem_append_right _ he⟩ (by first | exact Z.Yd.load rfl Try.isAgg3 (fun _ => Z.cellB (by first | ((repeat (first | exact List.mem_cons_self | refine List.mem_cons_of_mem _ ?_ | refine List.mem_append_right _ ?_)); done) | fail) rfl) | exact Z.Yd.load rfl Try.isAgg3 (fun _ => Z.cellO (by assumption) (by simp) (by assumption)) | fail "load 7.3") ?_
        refine Z.tn 1 rfl rfl (by kernel_rfl) rfl trivial ?_
        refine Z.ZO.call rfl rfl (by rfl) rfl rfl Try.call25 rfl (bk_now g m _ (hr.st (hs.sub (List.nil_sublist _))) hm) ?_
        rintro v7_1 w7_1 ⟨rfl, hy⟩
        replace hs := hs.call hy
        clear hy
        try simp only [List.cons_append, List.nil_append, List.append_nil] at hs
        refine Z.tk (Dn := fun _ => true) (i := 1) (fun _ => ⟨_, hs, by first | (simp; done) | exact fun e he => List.mem_append_right _ he⟩) ?_
        refine Z.tb [4, 5] (by kernel_rfl) rfl ⟨_, hs, by first | (simp; done) | exact fun e he => List.mem_append_right _ he⟩ rfl ?_
        refine Z.td (by rfl) (by kernel_rfl) ?_
        refine Z.only [4] rfl ?_
        refine Z.nthen ?_
        refine Z.ret ?_
        -- ret#0
        refine Z.out1 (by exact ⟨rfl, trivial⟩) ?_
        exact ⟨_, rfl, by simp, hs.sub (List.nil_sublist _)⟩
        )
/-- a call of the law's, and whether it reads -/
structure AcV where
  w : Int
  n : Int
  D : Option Addr
  c : Nat
  d : List Int
def AcV.cells (x : AcV) : List Value := [.int .i64 x.w, .int .i64 x.n, .slice x.D x.d.length x.c]
theorem ac_len (x : AcV) : x.cells.length = 3 := rfl
def fewL (l : List AcV) (most : Nat) : Prop := l.length ≤ most ∧ ∀ x ∈ l, x.d.length ≤ 12
instance (l : List AcV) (most : Nat) : Decidable (fewL l most) := by unfold fewL; infer_instance
theorem bk_few (A : Option Addr) (n c most : Nat) (l : List AcV) (w : World) (hx : Sl w A (l.flatMap AcV.cells)) (hl : l.length = n) (hmo : most ≤ 100) :
    Calls Try.prog 19 #[.slice A n c, .int .i64 (most : Int)] w (SX.Ret fun v w' => v = .bool (decide (fewL l most)) ∧ SX.St w [] w' []) := by
  have hs := SX.St.start w
  refine Z.enter Try.func19 rfl Try.ntmps19 rfl rfl ?_
  refine Z.seq ?_
  refine Z.region ?_
  refine Z.lb 1 rfl ?_
  refine Z.lnil ?_
  refine Z.only [0, 1] rfl ?_
  refine Z.nthen ?_
  refine Z.seq ?_
  refine Z.seq ?_
  refine Z.region ?_
  refine Z.lb 1 rfl ?_
  refine Z.l rfl rfl (by rfl) (Z.keepS hs) (Z.Yd.lenS rfl Try.underlying49) ?_
  refine Z.lb 2 rfl ?_
  refine Z.lnil ?_
  refine Z.only [0, 9] rfl ?_
  refine Z.nthen ?_
  refine Z.cond rfl (fun hc1 => ?_) (fun hc1 => ?_)
  · first
      | (exfalso; simp at hc1 <;> omega)
      | (
        (try simp at hc1)
        have hno : ¬ fewL l most := by rintro ⟨h1, -⟩; omega
        refine Z.seq ?_
        refine Z.region ?_
        refine Z.lb 1 rfl ?_
        refine Z.lnil ?_
        refine Z.only [4] rfl ?_
        refine Z.nthen ?_
        refine Z.ret ?_
        repeat (first | refine Z.rthen ?_ | refine Z.rblock ?_ | refine Z.rscope ?_)
        -- ret#0
        refine Z.out1 (by exact ⟨rfl, trivial⟩) ?_
        first
        | exact ⟨_, rfl, by rw [decide_eq_false hno], hs⟩
        | (rw [List.take_of_length_le (by omega)] at h0
           exact ⟨_, rfl, by rw [decide_eq_true (show fewL l most from ⟨by omega, h0⟩)], hs⟩)
        )
  · first
      | (exfalso; simp at hc1 <;> omega)
      | (
        (try simp at hc1)
        refine Z.skip ?_
        refine Z.nthen ?_
        refine Z.seq ?_
        refine Z.seq ?_
        refine Z.region ?_
        refine Z.lb 1 rfl ?_
        refine Z.lnil ?_
        refine Z.only [0, 5] rfl ?_
        refine Z.nthen ?_
        refine Z.block ?_
        refine Z.loopk (ι := Nat) [0] rfl (fun i => [(5, [], .int .i64 (i : Int))]) (fun i wr => (i ≤ n ∧ ∀ x ∈ l.take i, x.d.length ≤ 12) ∧ SX.St w [] wr []) (fun i => n - i) 0 (by refine ⟨?_, trivial⟩ <;> (first | rfl | (refine Z.lookv rfl ?_; simp; done) | (refine Z.lookv rfl ?_; simp; omega))) ⟨⟨by omega, by simp⟩, hs⟩ ?_
        clear hs
        rintro i w4 ⟨⟨hi, h0⟩, hs⟩
        refine Z.only [0, 5] rfl ?_
        refine Z.seq ?_
        refine Z.seq ?_
        refine Z.region ?_
        refine Z.lb 2 rfl ?_
        refine Z.l rfl rfl (by rfl) (Z.keepS hs) (Z.Yd.lenS rfl Try.underlying49) ?_
        refine Z.lb 1 rfl ?_
        refine Z.lnil ?_
        refine Z.only [0, 5, 13] rfl ?_
        refine Z.nthen ?_
        refine Z.cond rfl (fun hc4 => ?_) (fun hc4 => ?_)
        · first
            | (exfalso; simp at hc4 <;> omega)
            | (
              (try simp at hc4)
              obtain ⟨b, off, rfl, hb1, hx2⟩ := Z.Sl.some hx (by rw [flat_len ac_len]; omega)
              obtain ⟨x, hxi⟩ : ∃ x, l[i]? = some x := ⟨_, List.getElem?_eq_getElem (by omega)⟩
              refine Z.skip ?_
              refine Z.nthen ?_
              refine Z.seq ?_
              refine Z.block ?_
              refine Z.seq ?_
              refine Z.region ?_
              refine Z.lb 2 rfl ?_
              refine Z.l rfl rfl (by rfl) (Z.keepS hs) (Z.Yd.elem rfl rfl Try.underlying49 Try.sizeOf54 (fun hG => ⟨(by first | omega | (have hG' := Z.gh rfl hG; simp at hG'; omega)), (by first | omega | (have hG' := Z.gh rfl hG; simp at hG'; omega))⟩)) ?_
              refine Z.l rfl rfl (by rfl) (Z.keepS hs) (Z.Yd.fieldA (m := 2) rfl (by kernel_rfl)) ?_
              refine Z.l rfl rfl (by rfl) (Z.keepS hs) (Z.Yd.load rfl Try.isAgg28 (fun _ => Z.cellXf hx2.sx ac_len hxi rfl)) ?_
              refine Z.l rfl rfl (by rfl) (Z.keepS hs) (Z.Yd.lenS rfl Try.underlying28) ?_
              refine Z.lb 1 rfl ?_
              refine Z.lnil ?_
              refine Z.only [0, 5, 22] rfl ?_
              refine Z.nthen ?_
              refine Z.cond rfl (fun hc6 => ?_) (fun hc6 => ?_)
              · first
                  | (exfalso; simp at hc6 <;> omega)
                  | (
                    (try simp at hc6)
                    have hno : ¬ fewL l most := fun h => by
                      have := h.2 x (List.mem_of_getElem? hxi)
                      omega
                    refine Z.seq ?_
                    refine Z.region ?_
                    refine Z.lb 1 rfl ?_
                    refine Z.lnil ?_
                    refine Z.only [4] rfl ?_
                    refine Z.nthen ?_
                    refine Z.ret ?_
                    repeat (first | refine Z.rthen ?_ | refine Z.rblock ?_ | refine Z.rscope ?_)
                    -- ret#1
                    refine Z.out1 (by exact ⟨rfl, trivial⟩) ?_
                    first
                    | exact ⟨_, rfl, by rw [decide_eq_false hno], hs⟩
                    | (rw [List.take_of_length_le (by omega)] at h0
                       exact ⟨_, rfl, by rw [decide_eq_true (show fewL l most from ⟨by omega, h0⟩)], hs⟩)
                    )
              · first
                  | (exfalso; simp at hc6 <;> omega)
                  | (
                    (try simp at hc6)
                    refine Z.skip ?_
                    refine Z.nblock ?_
                    refine Z.nthen ?_
                    refine Z.region ?_
                    refine Z.lb 1 rfl ?_
                    refine Z.l rfl rfl (by rfl) (Z.keepS hs) (Z.Yd.add rfl rfl (fun hG => Z.wi64 (by first | omega | (have hG' := Z.gh rfl hG; simp at hG'; omega)))) ?_
                    refine Z.lb 1 rfl ?_
                    refine Z.lnil ?_
                    refine Z.only [0, 5] rfl ?_
                    refine Z.nthen ?_
                    refine Z.again (i + 1) (by refine ⟨?_, ?_, trivial⟩ <;> (first | rfl | (refine Z.lookv rfl ?_; simp; done) | (refine Z.lookv rfl ?_; simp; omega))) ⟨⟨by omega, fun y hy => ?_⟩, hs⟩ (by omega)
                    rw [List.take_add_one, hxi] at hy
                    rcases List.mem_append.1 hy with hy | hy
                    · exact h0 y hy
                    · obtain rfl : y = x := by simpa using hy
                      omega
                    )
              )
        · first
            | (exfalso; simp at hc4 <;> omega)
            | (
              (try simp at hc4)
              refine Z.exit ?_
              refine Z.xthen ?_
              refine Z.xthen ?_
              refine Z.xblock ?_
              refine Z.nthen ?_
              refine Z.seq ?_
              refine Z.region ?_
              refine Z.lb 1 rfl ?_
              refine Z.lnil ?_
              refine Z.only [4] rfl ?_
              refine Z.nthen ?_
              refine Z.ret ?_
              -- ret#2
              refine Z.out1 (by exact ⟨rfl, trivial⟩) ?_
              first
              | exact ⟨_, rfl, by rw [decide_eq_false hno], hs⟩
              | (rw [List.take_of_length_le (by omega)] at h0
                 exact ⟨_, rfl, by rw [decide_eq_true (show fewL l most from ⟨by omega, h0⟩)], hs⟩)
              )
        )
end Go.Proofs.Ythdhobnkclddhaa
