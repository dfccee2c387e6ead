/- Part 6 of the proofs that lead to the statement. -/
import Derived.Test.YthdhobnkclddhaaY5
import Derived.Test.YthdhobnkclddhaaRows
import Derived.WalkKit
import Derived.ProofKit
import Derived.OpenShut
import Derived.ShutString
import Derived.ChangeOld
import Derived.Below
/- Buckets: what only reads: Level, Now, Order, Copy, Same. -/
namespace Go.Proofs.Ythdhobnkclddhaa
open Go.RowKit
set_option linter.unusedSimpArgs false
set_option linter.unusedVariables false
--newlaws

/-- the program's object, for reading -/
def BkR (w : World) (g : Nat) (m : BkV) : Prop := ∃ A c B d, Cel w g [.slice A m.l.length c, .slice B m.l.length d, .int .i64 m.now] ∧ Sl w A (m.chs.flatMap chC) ∧ Sl w B (ints .i64 (natI (ordL m.l)))
theorem BkR.st {w W : World} {L : List SX.Ent} {g : Nat} {m : BkV} (h : BkR w g m) (hW : SX.St w [] W L) : BkR W g m := by
  obtain ⟨A, c, B, d, h1, h2, h3⟩ := h
  exact ⟨A, c, B, d, h1.st hW, h2.st hW, h3.st hW⟩
theorem bkE_form {w0 w : World} {M : List Nat} {L : List SX.Ent} {g : Nat} {sv so : Value} {m : BkV} (hs : SX.St w0 M w L) (h : ∀ e ∈ bkE g sv so m, e ∈ L) : ∃ A c B d, sv = .slice A m.l.length c ∧ so = .slice B m.l.length d ∧ Sl w A (m.chs.flatMap chC) ∧ Sl w B (ints .i64 (natI (ordL m.l))) := by
  have h2 := h _ (show _ ∈ bkE g sv so m from List.mem_cons_of_mem _ List.mem_cons_self)
  have h3 := h _ (show _ ∈ bkE g sv so m from List.mem_cons_of_mem _ (List.mem_cons_of_mem _ List.mem_cons_self))
  obtain ⟨j2, hj2⟩ := List.mem_iff_getElem?.1 h2
  obtain ⟨j3, hj3⟩ := List.mem_iff_getElem?.1 h3
  obtain ⟨A, c, e1, -, -, r1⟩ := SX.row_slv hs hj2
  obtain ⟨B, d, e2, -, -, r2⟩ := SX.row_slv hs hj3
  exact ⟨A, c, B, d, e1, e2, r1, r2⟩
theorem SX.St.bkR {w0 w : World} {M : List Nat} {L : List SX.Ent} {g : Nat} {sv so : Value} {m : BkV} (hs : SX.St w0 M w L) (h : ∀ e ∈ bkE g sv so m, e ∈ L) : BkR w g m := by
  obtain ⟨A, c, B, d, rfl, rfl, r1, r2⟩ := bkE_form hs h
  exact ⟨A, c, B, d, hs.celOf (T := 63) (cs := [_, _, _]) (h _ List.mem_cons_self), r1, r2⟩
def lvV (m : BkV) (id : Int) : Int × Bool := if 0 ≤ idxG (fun x : LgV => decide (x.id = id)) m.l then (elt m.b (idxG (fun x : LgV => decide (x.id = id)) m.l), true) else (0, false)
theorem lvV_some {m : BkV} {id : Int} {k : Nat} (h0 : ∀ x ∈ m.l.take k, decide (x.id = id) = false) (hk : k < m.l.length) (h1 : m.l[k]!.id = id) : lvV m id = (elt m.b (k : Int), true) := by
  unfold lvV
  rw [idxG_some h0 hk (by rw [← getElem!_pos m.l k hk]; simpa using h1), if_pos (by omega)]
theorem lvV_none {m : BkV} {id : Int} (h0 : ∀ x ∈ m.l, decide (x.id = id) = false) : lvV m id = (0, false) := by
  unfold lvV
  rw [idxG_none h0, if_neg (by omega)]
theorem take_none {m : BkV} {id : Int} {k : Nat} (h0 : ∀ x ∈ m.l.take k, decide (x.id = id) = false) (hk : k < m.l.length) (h1 : ¬ m.l[k]!.id = id) : ∀ x ∈ m.l.take (k + 1), decide (x.id = id) = false := by
  intro x hx
  rw [List.take_add_one, List.getElem?_eq_getElem hk] at hx
  rcases List.mem_append.1 hx with hx | hx
  · exact h0 x hx
  · obtain rfl : x = m.l[k] := by simpa using hx
    rw [getElem!_pos m.l k hk] at h1
    simpa using h1
theorem bk_level (g : Nat) (m : BkV) (id : Int) (w : World) (hr : BkR w g m) (hm : m.ok) : Calls Try.prog 17 #[.pointer (some ⟨g, 0, none⟩), .int .i64 id] w (SX.Ret fun v w' => v = .tuple #[.int .i64 (lvV m id).1, .bool (lvV m id).2] ∧ SX.St w [] w' []) := by
  obtain ⟨A, c, B, d, hc, hA, hB⟩ := hr
  have hpos := hm.pos
  have hs := SX.St.start w
  obtain ⟨bb, off, rfl, hb0, hx2⟩ := Z.Sl.some hA (by rw [flat_len ch_len, hm.chl]; omega)
  refine Z.enter Try.func17 rfl Try.ntmps17 rfl rfl ?_
  refine Z.seq ?_
  refine Z.region ?_
  refine Z.lb 2 rfl ?_
  refine Z.lnil ?_
  refine Z.only [0, 1] rfl ?_
  refine Z.nthen ?_
  refine Z.seq ?_
  refine Z.seq ?_
  refine Z.region ?_
  refine Z.lb 1 rfl ?_
  refine Z.le rfl trivial ?_
  refine Z.ZO.call rfl rfl (by rfl) rfl rfl Try.call35 rfl (bk_none g _ _ _ _ _ _ hc) ?_
  rintro v1_1 w1_1 ⟨rfl, hy⟩
  replace hs := hs.call hy
  clear hy
  try simp only [List.cons_append, List.nil_append, List.append_nil] at hs
  refine Z.lnil ?_
  refine Z.only [0, 1, 9] rfl ?_
  refine Z.nthen ?_
  refine Z.cond rfl (fun h => absurd h (by simp only [decide_eq_true_eq]; omega)) (fun hc1 => ?_)
  refine Z.skip ?_
  refine Z.nthen ?_
  refine Z.seq ?_
  refine Z.seq ?_
  refine Z.region ?_
  refine Z.lb 1 rfl ?_
  refine Z.l rfl rfl (by rfl) (Z.keepS hs) (Z.Yd.nilc rfl rfl) ?_
  refine Z.l rfl rfl (by rfl) (Z.keepS hs) (Z.Yd.fieldA (m := 0) rfl (by kernel_rfl)) ?_
  refine Z.l rfl rfl (by rfl) (Z.keepS hs) (Z.Yd.load rfl Try.isAgg61 (fun _ => Z.cellO hc.1 (by simp) (hc.2 0 _ rfl))) ?_
  refine Z.l rfl rfl (by rfl) (Z.keepS hs) (Z.Yd.lenS rfl Try.underlying61) ?_
  refine Z.lb 1 rfl ?_
  refine Z.lnil ?_
  refine Z.only [1, 13, 14, 15] rfl ?_
  refine Z.nthen ?_
  refine Z.block ?_
  refine Z.loopk (ι := Nat) [1, 13, 14] rfl (fun k => [(15, [], .int .i64 (k : Int))]) (fun k wr => (k ≤ m.l.length ∧ ∀ x ∈ m.l.take k, decide (x.id = id) = false) ∧ SX.St w [] wr []) (fun k => m.l.length - k) 0 (by refine ⟨?_, trivial⟩ <;> (first | rfl | (refine Z.lookv rfl ?_; simp; done) | (refine Z.lookv rfl ?_; simp; omega))) ⟨⟨by omega, by simp⟩, hs⟩ ?_
  clear hs
  rintro k w4 ⟨⟨hk, h0⟩, hs⟩
  refine Z.only [1, 13, 14, 15] rfl ?_
  refine Z.seq ?_
  refine Z.region ?_
  refine Z.lb 1 rfl ?_
  refine Z.lnil ?_
  refine Z.only [1, 13, 14, 15, 16] rfl ?_
  refine Z.nthen ?_
  refine Z.seq ?_
  refine Z.cond rfl (fun hc4 => ?_) (fun hc4 => ?_)
  · first
      | (exfalso; simp at hc4 <;> omega)
      | (
        (try simp at hc4)
        have hlt : k < m.l.length := by omega
        have hg := hm.chg hlt
        have hone := ch_one (m.l[k]!, elt m.b (k : Int))
        refine Z.skip ?_
        refine Z.nthen ?_
        refine Z.seq ?_
        refine Z.block ?_
        refine Z.seq ?_
        refine Z.region ?_
        refine Z.l rfl rfl (by rfl) (Z.keepS hs) (Z.Yd.elem rfl rfl Try.underlying61 Try.sizeOf72 (fun hG => ⟨(by first | omega | (have hG' := Z.gh rfl hG; simp at hG'; omega)), (by first | omega | (have hG' := Z.gh rfl hG; simp at hG'; omega))⟩)) ?_
        refine Z.l rfl rfl (by rfl) (Z.keepS hs) (Z.Yd.loadA _ rfl Try.isAgg72 (fun _ W hK j u hu => Z.cellXq (enc := chC) hx2.sx ch_len hg hu W hK) (by exact Try.sizeOf72)) ?_
        refine Z.le rfl trivial ?_
        refine Z.ZO.alloc rfl rfl (by rfl) Try.zeroValue72 rfl hs ?_
        clear hs; intro g7 w7 hs
        refine Z.le rfl trivial ?_
        first | refine Z.ZO.storeA rfl rfl hs rfl rfl (by kernel_rfl) (by first | (simp [Value.oneCell']; done) | (refine Z.all_one ?_; assumption)) (by first | exact SX.at0 | exact SX.at1 | exact SX.at2 | exact SX.at3 | exact SX.at4 | exact SX.at5 | exact Z.at6 | exact Z.at7 | exact Z.at8 | exact Z.at9 | exact Z.at10 | exact Z.at11 | exact Z.at12) (by rfl) ?_ | refine Z.ZO.storeP rfl rfl hs rfl rfl (by kernel_rfl) (by first | (simp [Value.oneCell']; done) | (refine Z.all_one ?_; assumption)) (by first | exact SX.at0 | exact SX.at1 | exact SX.at2 | exact SX.at3 | exact SX.at4 | exact SX.at5 | exact Z.at6 | exact Z.at7 | exact Z.at8 | exact Z.at9 | exact Z.at10 | exact Z.at11 | exact Z.at12) (by first | decide | (simp; done) | (simp; omega)) ?_ | refine Z.ZO.storePR rfl rfl hs rfl rfl (by kernel_rfl) (by first | (simp [Value.oneCell']; done) | (refine Z.all_one ?_; assumption)) (by first | exact SX.at0 | exact SX.at1 | exact SX.at2 | exact SX.at3 | exact SX.at4 | exact SX.at5 | exact Z.at6 | exact Z.at7 | exact Z.at8 | exact Z.at9 | exact Z.at10 | exact Z.at11 | exact Z.at12) (by first | decide | (simp; done) | (simp; omega)) ?_
        clear hs; intro ws hs
        simp only [Nat.zero_add, Nat.add_zero, Nat.reduceAdd, Int.reduceToNat, Nat.reduceMul, List.set_cons_zero, List.set_cons_succ, List.setIfInBounds_toArray] at hs
        try simp only [Z.putL, Nat.zero_add] at hs
        refine Z.lnil ?_
        refine Z.only [1, 7, 13, 14, 15] rfl ?_
        refine Z.nthen ?_
        refine Z.seq ?_
        refine Z.region ?_
        refine Z.l rfl rfl (by rfl) (Z.keepS hs) (Z.Yd.fieldA (m := 0) rfl (by kernel_rfl)) ?_
        refine Z.l rfl rfl (by rfl) (Z.keepS hs) (Z.Yd.fieldA (m := 0) rfl (by kernel_rfl)) ?_
        refine Z.l rfl rfl (by rfl) (Z.keepS hs) (by first | exact Z.Yd.load rfl Try.isAgg3 (fun _ => Z.cellB (by first | ((repeat (first | exact List.mem_cons_self | refine List.mem_cons_of_mem _ ?_ | refine List.mem_append_right _ ?_)); done) | fail) rfl) | exact Z.Yd.load rfl Try.isAgg3 (fun _ => Z.cellO (by assumption) (by simp) (by assumption)) | fail "load 6.2") ?_
        refine Z.lb 2 rfl ?_
        refine Z.lnil ?_
        refine Z.only [1, 7, 13, 14, 15, 23] rfl ?_
        refine Z.nthen ?_
        refine Z.cond rfl (fun hc6 => ?_) (fun hc6 => ?_)
        · first
            | (exfalso; simp at hc6 <;> omega)
            | (
              (try simp at hc6)
              have hid : m.l[k]!.id = id := by simpa using hc6
              refine Z.seq ?_
              refine Z.region ?_
              refine Z.l rfl rfl (by rfl) (Z.keepS hs) (Z.Yd.fieldA (m := 5) rfl (by kernel_rfl)) ?_
              refine Z.l rfl rfl (by rfl) (Z.keepS hs) (by first | exact Z.Yd.load rfl Try.isAgg3 (fun _ => Z.cellB (by first | ((repeat (first | exact List.mem_cons_self | refine List.mem_cons_of_mem _ ?_ | refine List.mem_append_right _ ?_)); done) | fail) rfl) | exact Z.Yd.load rfl Try.isAgg3 (fun _ => Z.cellO (by assumption) (by simp) (by assumption)) | fail "load 7.1") ?_
              refine Z.lb 2 rfl ?_
              refine Z.lnil ?_
              refine Z.only [4, 5] rfl ?_
              refine Z.nthen ?_
              refine Z.ret ?_
              repeat (first | refine Z.rthen ?_ | refine Z.rblock ?_ | refine Z.rscope ?_)
              -- ret#0
              refine Z.out2 (by exact ⟨rfl, rfl, trivial⟩) ?_
              first
              | exact ⟨_, rfl, by rw [lvV_some h0 hlt hid], hs.sub (List.nil_sublist _)⟩
              | exact ⟨_, rfl, by rw [lvV_none (by rw [List.take_of_length_le (by omega)] at h0; exact h0)], hs⟩
              )
        · first
            | (exfalso; simp at hc6 <;> omega)
            | (
              (try simp at hc6)
              have hid : ¬ m.l[k]!.id = id := by simpa using hc6
              refine Z.skip ?_
              refine Z.nblock ?_
              refine Z.nthen ?_
              refine Z.region ?_
              refine Z.l rfl rfl (by rfl) (Z.keepS hs) (Z.Yd.add rfl rfl (fun hG => Z.wi64 (by first | omega | (have hG' := Z.gh rfl hG; simp at hG'; omega)))) ?_
              refine Z.lb 1 rfl ?_
              refine Z.lnil ?_
              refine Z.only [1, 13, 14, 15] rfl ?_
              refine Z.nthen ?_
              exact Z.again (k + 1) (by refine ⟨?_, ?_, ?_, ?_, trivial⟩ <;> (first | rfl | (refine Z.lookv rfl ?_; simp; done) | (refine Z.lookv rfl ?_; simp; omega))) ⟨⟨by omega, take_none h0 hlt hid⟩, hs.sub (List.nil_sublist _)⟩ (by omega)
              )
        )
  · first
      | (exfalso; simp at hc4 <;> omega)
      | (
        (try simp at hc4)
        refine Z.exit ?_
        refine Z.xthen ?_
        refine Z.xthen ?_
        refine Z.xblock ?_
        refine Z.nthen ?_
        refine Z.seq ?_
        refine Z.region ?_
        refine Z.lb 2 rfl ?_
        refine Z.lnil ?_
        refine Z.only [4, 5] rfl ?_
        refine Z.nthen ?_
        refine Z.ret ?_
        -- ret#1
        refine Z.out2 (by exact ⟨rfl, rfl, trivial⟩) ?_
        first
        | exact ⟨_, rfl, by rw [lvV_some h0 hlt hid], hs.sub (List.nil_sublist _)⟩
        | exact ⟨_, rfl, by rw [lvV_none (by rw [List.take_of_length_le (by omega)] at h0; exact h0)], hs⟩
        )
theorem bk_equal (A B : Option Addr) (n c k d : Nat) (xs ys : List (LgV × Int)) (w : World) (hA : Sl w A (xs.flatMap chC)) (hB : Sl w B (ys.flatMap chC)) (hl : xs.length = n) (hk : ys.length = k) (hn : n ≤ 1000) :
    Calls Try.prog 37 #[.slice A n c, .slice B k d] w (SX.Ret fun v w' => v = .bool (decide (xs = ys)) ∧ SX.St w [] w' []) := by
  have hs := SX.St.start w
  refine Z.enter Try.func37 rfl Try.ntmps37 rfl rfl ?_
  refine Z.seq ?_
  refine Z.region ?_
  refine Z.lb 1 rfl ?_
  refine Z.lnil ?_
  refine Z.only [0, 1] rfl ?_
  refine Z.nthen ?_
  refine Z.seq ?_
  refine Z.seq ?_
  refine Z.region ?_
  refine Z.lb 1 rfl ?_
  refine Z.l rfl rfl (by rfl) (Z.keepS hs) (Z.Yd.lenS rfl Try.underlying61) ?_
  refine Z.lb 1 rfl ?_
  refine Z.l rfl rfl (by rfl) (Z.keepS hs) (Z.Yd.lenS rfl Try.underlying61) ?_
  refine Z.lb 1 rfl ?_
  refine Z.lnil ?_
  refine Z.only [0, 1, 10] rfl ?_
  refine Z.nthen ?_
  refine Z.cond rfl (fun hc1 => ?_) (fun hc1 => ?_)
  · first
      | (exfalso; simp at hc1 <;> omega)
      | (
        (try simp at hc1)
        have hne : ¬ xs = ys := fun h => by subst h; omega
        refine Z.seq ?_
        refine Z.region ?_
        refine Z.lb 1 rfl ?_
        refine Z.lnil ?_
        refine Z.only [4] rfl ?_
        refine Z.nthen ?_
        refine Z.ret ?_
        repeat (first | refine Z.rthen ?_ | refine Z.rblock ?_ | refine Z.rscope ?_)
        -- ret#0
        refine Z.out1 (by exact ⟨rfl, trivial⟩) ?_
        first
        | exact ⟨_, rfl, by rw [decide_eq_false hne], hs⟩
        | (rw [List.take_of_length_le (by omega), List.take_of_length_le (by omega)] at ht
           exact ⟨_, rfl, by rw [decide_eq_true ht], hs⟩)
        )
  · first
      | (exfalso; simp at hc1 <;> omega)
      | (
        (try simp at hc1)
        have hnk : n = k := by omega
        refine Z.skip ?_
        refine Z.nthen ?_
        refine Z.seq ?_
        refine Z.seq ?_
        refine Z.region ?_
        refine Z.lb 1 rfl ?_
        refine Z.l rfl rfl (by rfl) (Z.keepS hs) (Z.Yd.lenS rfl Try.underlying61) ?_
        refine Z.lb 1 rfl ?_
        refine Z.lnil ?_
        refine Z.only [0, 1, 12, 13] rfl ?_
        refine Z.nthen ?_
        refine Z.block ?_
        refine Z.loopk (ι := Nat) [0, 1, 12] rfl (fun i => [(13, [], .int .i64 (i : Int))]) (fun i wr => (i ≤ n ∧ xs.take i = ys.take i) ∧ SX.St w [] wr []) (fun i => n - i) 0 (by refine ⟨?_, trivial⟩ <;> (first | rfl | (refine Z.lookv rfl ?_; simp; done) | (refine Z.lookv rfl ?_; simp; omega))) ⟨⟨by omega, rfl⟩, hs⟩ ?_
        clear hs
        rintro i w4 ⟨⟨hi, ht⟩, hs⟩
        refine Z.only [0, 1, 12, 13] rfl ?_
        refine Z.seq ?_
        refine Z.region ?_
        refine Z.lb 1 rfl ?_
        refine Z.lnil ?_
        refine Z.only [0, 1, 12, 13, 14] rfl ?_
        refine Z.nthen ?_
        refine Z.seq ?_
        refine Z.cond rfl (fun hc4 => ?_) (fun hc4 => ?_)
        · first
            | (exfalso; simp at hc4 <;> omega)
            | (
              (try simp at hc4)
              obtain ⟨⟨x, u⟩, hxi⟩ : ∃ q, xs[i]? = some q := ⟨_, List.getElem?_eq_getElem (by omega)⟩
              obtain ⟨⟨y, v⟩, hyi⟩ : ∃ r, ys[i]? = some r := ⟨_, List.getElem?_eq_getElem (by omega)⟩
              obtain ⟨b, off, rfl, hb1, hx2⟩ := Z.Sl.some hA (by rw [flat_len ch_len]; omega)
              obtain ⟨b', off', rfl, hb2, hy2⟩ := Z.Sl.some hB (by rw [flat_len ch_len]; omega)
              refine Z.skip ?_
              refine Z.nthen ?_
              refine Z.seq ?_
              refine Z.block ?_
              refine Z.seq ?_
              refine Z.region ?_
              refine Z.lb 2 rfl ?_
              refine Z.lnil ?_
              refine Z.only [0, 1, 5, 12, 13] rfl ?_
              refine Z.nthen ?_
              refine Z.seq ?_
              refine Z.drawK (fun _ => true) mixed hs ?_
              clear hs; intro wd6 hs
              refine Z.tb [0, 1] (by kernel_rfl) rfl ⟨_, hs, by first | (simp; done) | exact fun e he => List.mem_append_right _ he⟩ rfl ?_
              refine Z.t 2 rfl rfl rfl (by rfl) (by kernel_rfl) ⟨_, hs, by first | (simp; done) | exact fun e he => List.mem_append_right _ he⟩ (Z.Yd.elem rfl rfl Try.underlying61 Try.sizeOf72 (fun hG => ⟨(by first | omega | (have hG' := Z.gh rfl hG; simp at hG'; omega)), (by first | omega | (have hG' := Z.gh rfl hG; simp at hG'; omega))⟩)) ?_
              refine Z.t 3 rfl rfl rfl (by rfl) (by kernel_rfl) ⟨_, hs, by first | (simp; done) | exact fun e he => List.mem_append_right _ he⟩ (Z.Yd.loadA _ rfl Try.isAgg72 (fun _ W hK j u hu => Z.cellXq (enc := chC) hx2.sx ch_len hxi hu W hK) (by exact Try.sizeOf72)) ?_
              refine Z.tb [4, 5] (by kernel_rfl) rfl ⟨_, hs, by first | (simp; done) | exact fun e he => List.mem_append_right _ he⟩ rfl ?_
              refine Z.t 6 rfl rfl rfl (by rfl) (by kernel_rfl) ⟨_, hs, by first | (simp; done) | exact fun e he => List.mem_append_right _ he⟩ (Z.Yd.elem rfl rfl Try.underlying61 Try.sizeOf72 (fun hG => ⟨(by first | omega | (have hG' := Z.gh rfl hG; simp at hG'; omega)), (by first | omega | (have hG' := Z.gh rfl hG; simp at hG'; omega))⟩)) ?_
              refine Z.t 7 rfl rfl rfl (by rfl) (by kernel_rfl) ⟨_, hs, by first | (simp; done) | exact fun e he => List.mem_append_right _ he⟩ (Z.Yd.loadA _ rfl Try.isAgg72 (fun _ W hK j u hu => Z.cellXq (enc := chC) hy2.sx ch_len hyi hu W hK) (by exact Try.sizeOf72)) ?_
              refine Z.t 8 rfl rfl rfl (by rfl) (by kernel_rfl) ⟨_, hs, by first | (simp; done) | exact fun e he => List.mem_append_right _ he⟩ (Z.Yd.neA (.st (.fc 0 5 (.st (.fc 0 1 (.i) (.fc 1 1 (.i) (.fc 2 1 (.i) (.fc 3 1 (.i) (.fc 4 1 (.i) (.fn))))))) (.fc 5 1 (.i) (.fn)))) rfl rfl rfl rfl (by kernel_rfl) (by kernel_rfl) rfl) ?_
              refine Z.td (by rfl) (by kernel_rfl) ?_
              refine Z.only [0, 1, 12, 13, 24] rfl ?_
              refine Z.nthen ?_
              refine Z.cond rfl (fun hc6 => ?_) (fun hc6 => ?_)
              · first
                  | (exfalso; simp at hc6 <;> omega)
                  | (
                    (try simp at hc6)
                    have hne : ¬ xs = ys := fun h => by
                      rw [h, hyi] at hxi
                      have := Option.some.inj hxi
                      simp only [Prod.mk.injEq] at this
                      obtain ⟨rfl, rfl⟩ := this
                      simp at hc6
                    refine Z.seq ?_
                    refine Z.region ?_
                    refine Z.lb 1 rfl ?_
                    refine Z.lnil ?_
                    refine Z.only [4] rfl ?_
                    refine Z.nthen ?_
                    refine Z.ret ?_
                    repeat (first | refine Z.rthen ?_ | refine Z.rblock ?_ | refine Z.rscope ?_)
                    -- ret#1
                    refine Z.out1 (by exact ⟨rfl, trivial⟩) ?_
                    first
                    | exact ⟨_, rfl, by rw [decide_eq_false hne], hs⟩
                    | (rw [List.take_of_length_le (by omega), List.take_of_length_le (by omega)] at ht
                       exact ⟨_, rfl, by rw [decide_eq_true ht], hs⟩)
                    )
              · first
                  | (exfalso; simp at hc6 <;> omega)
                  | (
                    (try simp at hc6)
                    refine Z.skip ?_
                    refine Z.nblock ?_
                    refine Z.nthen ?_
                    refine Z.region ?_
                    refine Z.l rfl rfl (by rfl) (Z.keepS hs) (Z.Yd.add rfl rfl (fun hG => Z.wi64 (by first | omega | (have hG' := Z.gh rfl hG; simp at hG'; omega)))) ?_
                    refine Z.lb 1 rfl ?_
                    refine Z.lnil ?_
                    refine Z.only [0, 1, 12, 13] rfl ?_
                    refine Z.nthen ?_
                    refine Z.again (i + 1) (by refine ⟨?_, ?_, ?_, ?_, trivial⟩ <;> (first | rfl | (refine Z.lookv rfl ?_; simp; done) | (refine Z.lookv rfl ?_; simp; omega))) ⟨⟨by omega, ?_⟩, hs⟩ (by omega)
                    rw [List.take_add_one, List.take_add_one, hxi, hyi, ht]
                    congr 2
                    obtain ⟨⟩ := x
                    obtain ⟨⟩ := y
                    simp_all
                    )
              )
        · first
            | (exfalso; simp at hc4 <;> omega)
            | (
              (try simp at hc4)
              refine Z.exit ?_
              refine Z.xthen ?_
              refine Z.xthen ?_
              refine Z.xblock ?_
              refine Z.nthen ?_
              refine Z.seq ?_
              refine Z.region ?_
              refine Z.lb 1 rfl ?_
              refine Z.lnil ?_
              refine Z.only [4] rfl ?_
              refine Z.nthen ?_
              refine Z.ret ?_
              -- ret#2
              refine Z.out1 (by exact ⟨rfl, trivial⟩) ?_
              first
              | exact ⟨_, rfl, by rw [decide_eq_false hne], hs⟩
              | (rw [List.take_of_length_le (by omega), List.take_of_length_le (by omega)] at ht
                 exact ⟨_, rfl, by rw [decide_eq_true ht], hs⟩)
              )
        )
theorem chs_inj {m k : BkV} (hm : m.ok) (hk : k.ok) (h : m.chs = k.chs) : m.l = k.l ∧ m.b = k.b := by
  have h1 := congrArg List.unzip h
  unfold BkV.chs at h1
  rw [List.unzip_zip (by rw [hm.len]), List.unzip_zip (by rw [hk.len])] at h1
  exact ⟨congrArg Prod.fst h1, congrArg Prod.snd h1⟩
theorem sm_iff {m k : BkV} (hm : m.ok) (hk : k.ok) : m = k ↔ m.now = k.now ∧ m.chs = k.chs := by
  constructor
  · rintro rfl; exact ⟨rfl, rfl⟩
  · rintro ⟨h1, h2⟩
    obtain ⟨h3, h4⟩ := chs_inj hm hk h2
    cases m; cases k
    simp_all
theorem bk_same (g k : Nat) (m n : BkV) (w : World) (hr : BkR w g m) (hq : BkR w k n) (hm : m.ok) (hn : n.ok) : Calls Try.prog 16 #[.pointer (some ⟨g, 0, none⟩), .pointer (some ⟨k, 0, none⟩)] w (SX.Ret fun v w' => v = .bool (decide (m = n)) ∧ SX.St w [] w' []) := by
  obtain ⟨A, c, B, d, hc, hA, hB⟩ := hr
  obtain ⟨A', c', B', d', hc', hA', hB'⟩ := hq
  have hpos := hm.pos
  have hpos' := hn.pos
  have hs := SX.St.start w
  have e : ∀ x : Bool, x = decide (m = n) → ∀ w', SX.St w [] w' [] → ∃ v, Ending.returned (.bool x) = .returned v ∧ v = .bool (decide (m = n)) ∧ SX.St w [] w' [] := fun x hx w' hw => ⟨_, rfl, by rw [hx], hw⟩
  refine Z.enter Try.func16 rfl Try.ntmps16 rfl rfl ?_
  refine Z.seq ?_
  refine Z.region ?_
  refine Z.lb 1 rfl ?_
  refine Z.lnil ?_
  refine Z.only [0, 1] rfl ?_
  refine Z.nthen ?_
  refine Z.seq ?_
  refine Z.seq ?_
  refine Z.region ?_
  refine Z.lb 1 rfl ?_
  refine Z.le rfl trivial ?_
  refine Z.ZO.call rfl rfl (by rfl) rfl rfl Try.call35 rfl (bk_none g _ _ _ _ _ _ hc) ?_
  rintro v1_1 w1_1 ⟨rfl, hy⟩
  replace hs := hs.call hy
  clear hy
  try simp only [List.cons_append, List.nil_append, List.append_nil] at hs
  refine Z.lb 1 rfl ?_
  refine Z.yes (s := 7) (b := false) rfl ((by rw [decide_eq_false (by omega)])) rfl ?_
  refine Z.lb 1 rfl ?_
  refine Z.yes (s := 7) (b := false) rfl rfl rfl ?_
  refine Z.le rfl (by exact ⟨rfl, trivial⟩) ?_
  refine Z.ZO.call rfl rfl (by rfl) rfl rfl Try.call35 rfl (bk_none k _ _ _ _ _ _ (hc'.st hs)) ?_
  rintro v1_4 w1_4 ⟨rfl, hy⟩
  replace hs := hs.call hy
  clear hy
  try simp only [List.cons_append, List.nil_append, List.append_nil] at hs
  refine Z.l rfl rfl (by rfl) (Z.keepS hs) (Z.Yd.pickF rfl rfl) ?_
  refine Z.lnil ?_
  refine Z.only [0, 1, 10] rfl ?_
  refine Z.nthen ?_
  refine Z.cond rfl (fun h => absurd h (by simp only [decide_eq_true_eq]; omega)) (fun hc1 => ?_)
  refine Z.skip ?_
  refine Z.nthen ?_
  refine Z.seq ?_
  refine Z.drawK (fun _ => true) mixed hs ?_
  clear hs; intro wd3 hs
  refine Z.tb [0] (by kernel_rfl) rfl ⟨_, hs, by first | (simp; done) | exact fun e he => List.mem_append_right _ he⟩ rfl ?_
  refine Z.t 1 rfl rfl rfl (by rfl) (by kernel_rfl) ⟨_, hs, by first | (simp; done) | exact fun e he => List.mem_append_right _ he⟩ (Z.Yd.nilc rfl rfl) ?_
  refine Z.t 2 rfl rfl rfl (by rfl) (by kernel_rfl) ⟨_, hs, by first | (simp; done) | exact fun e he => List.mem_append_right _ he⟩ (Z.Yd.fieldA (m := 2) rfl (by kernel_rfl)) ?_
  refine Z.t 3 rfl rfl rfl (by rfl) (by kernel_rfl) ⟨_, hs, by first | (simp; done) | exact fun e he => List.mem_append_right _ he⟩ (Z.Yd.load rfl Try.isAgg3 (fun _ => Z.cellO hc.1 (by simp) (hc.2 2 _ rfl))) ?_
  refine Z.tb [4] (by kernel_rfl) rfl ⟨_, hs, by first | (simp; done) | exact fun e he => List.mem_append_right _ he⟩ rfl ?_
  refine Z.t 5 rfl rfl rfl (by rfl) (by kernel_rfl) ⟨_, hs, by first | (simp; done) | exact fun e he => List.mem_append_right _ he⟩ (Z.Yd.nilc rfl rfl) ?_
  refine Z.t 6 rfl rfl rfl (by rfl) (by kernel_rfl) ⟨_, hs, by first | (simp; done) | exact fun e he => List.mem_append_right _ he⟩ (Z.Yd.fieldA (m := 2) rfl (by kernel_rfl)) ?_
  refine Z.t 7 rfl rfl rfl (by rfl) (by kernel_rfl) ⟨_, hs, by first | (simp; done) | exact fun e he => List.mem_append_right _ he⟩ (Z.Yd.load rfl Try.isAgg3 (fun _ => Z.cellO hc'.1 (by simp) (hc'.2 2 _ rfl))) ?_
  refine Z.tb [8, 9] (by kernel_rfl) rfl ⟨_, hs, by first | (simp; done) | exact fun e he => List.mem_append_right _ he⟩ rfl ?_
  refine Z.split (s := 26) rfl (fun hsp26 => ?_) (fun hsp26 => ?_)
  · first
      | (exfalso; simp at hsp26 <;> omega)
      | (
        refine Z.yes (s := 26) (b := true) rfl hsp26 rfl ?_
        (try simp at hsp26)
        refine Z.tb [10] (by kernel_rfl) rfl ⟨_, hs, by first | (simp; done) | exact fun e he => List.mem_append_right _ he⟩ rfl ?_
        refine Z.t 11 rfl rfl rfl (by rfl) (by kernel_rfl) ⟨_, hs, by first | (simp; done) | exact fun e he => List.mem_append_right _ he⟩ (Z.Yd.nilc rfl rfl) ?_
        refine Z.t 12 rfl rfl rfl (by rfl) (by kernel_rfl) ⟨_, hs, by first | (simp; done) | exact fun e he => List.mem_append_right _ he⟩ (Z.Yd.fieldA (m := 0) rfl (by kernel_rfl)) ?_
        refine Z.t 13 rfl rfl rfl (by rfl) (by kernel_rfl) ⟨_, hs, by first | (simp; done) | exact fun e he => List.mem_append_right _ he⟩ (Z.Yd.load rfl Try.isAgg61 (fun _ => Z.cellO hc.1 (by simp) (hc.2 0 _ rfl))) ?_
        refine Z.tb [14] (by kernel_rfl) rfl ⟨_, hs, by first | (simp; done) | exact fun e he => List.mem_append_right _ he⟩ rfl ?_
        refine Z.t 15 rfl rfl rfl (by rfl) (by kernel_rfl) ⟨_, hs, by first | (simp; done) | exact fun e he => List.mem_append_right _ he⟩ (Z.Yd.nilc rfl rfl) ?_
        refine Z.t 16 rfl rfl rfl (by rfl) (by kernel_rfl) ⟨_, hs, by first | (simp; done) | exact fun e he => List.mem_append_right _ he⟩ (Z.Yd.fieldA (m := 0) rfl (by kernel_rfl)) ?_
        refine Z.t 17 rfl rfl rfl (by rfl) (by kernel_rfl) ⟨_, hs, by first | (simp; done) | exact fun e he => List.mem_append_right _ he⟩ (Z.Yd.load rfl Try.isAgg61 (fun _ => Z.cellO hc'.1 (by simp) (hc'.2 0 _ rfl))) ?_
        refine Z.yes (s := 26) (b := true) rfl rfl rfl ?_
        refine Z.tn 18 rfl rfl (by kernel_rfl) rfl (by exact ⟨rfl, trivial⟩) ?_
        refine Z.ZO.call rfl rfl (by rfl) rfl rfl Try.call37 rfl (bk_equal A A' _ c _ c' m.chs n.chs _ (hA.st hs) (hA'.st hs) hm.chl hn.chl (by omega)) ?_
        rintro v3_18 w3_18 ⟨rfl, hy⟩
        replace hs := hs.call hy
        clear hy
        try simp only [List.cons_append, List.nil_append, List.append_nil] at hs
        refine Z.tk (Dn := fun _ => true) (i := 18) (fun _ => ⟨_, hs, by first | (simp; done) | exact fun e he => List.mem_append_right _ he⟩) ?_
        refine Z.t 19 rfl rfl rfl (by rfl) (by kernel_rfl) ⟨_, hs, by first | (simp; done) | exact fun e he => List.mem_append_right _ he⟩ (Z.Yd.pickT rfl rfl) ?_
        refine Z.tb [20] (by kernel_rfl) rfl ⟨_, hs, by first | (simp; done) | exact fun e he => List.mem_append_right _ he⟩ rfl ?_
        refine Z.td (by rfl) (by kernel_rfl) ?_
        refine Z.only [4] rfl ?_
        refine Z.nthen ?_
        refine Z.ret ?_
        -- ret#0
        refine Z.out1 (by exact ⟨rfl, trivial⟩) ?_
        refine e _ ?_ _ hs
        rw [Bool.eq_iff_iff]
        simp only [decide_eq_true_eq, sm_iff hm hn]
        simp_all
        )
  · first
      | (exfalso; simp at hsp26 <;> omega)
      | (
        refine Z.yes (s := 26) (b := false) rfl hsp26 rfl ?_
        (try simp at hsp26)
        refine Z.t 10 rfl rfl rfl (by rfl) (by kernel_rfl) ⟨_, hs, by first | (simp; done) | exact fun e he => List.mem_append_right _ he⟩ (Z.Yd.off (v := undef) 26 true rfl (by first | (simp; done) | (simp_all; done)) (by intro c h; cases h)) ?_
        refine Z.t 11 rfl rfl rfl (by rfl) (by kernel_rfl) ⟨_, hs, by first | (simp; done) | exact fun e he => List.mem_append_right _ he⟩ (Z.Yd.off (v := undef) 26 true rfl (by first | (simp; done) | (simp_all; done)) (by intro c h; cases h)) ?_
        refine Z.t 12 rfl rfl rfl (by rfl) (by kernel_rfl) ⟨_, hs, by first | (simp; done) | exact fun e he => List.mem_append_right _ he⟩ (Z.Yd.off (v := undef) 26 true rfl (by first | (simp; done) | (simp_all; done)) (by intro c h; cases h)) ?_
        refine Z.t 13 rfl rfl rfl (by rfl) (by kernel_rfl) ⟨_, hs, by first | (simp; done) | exact fun e he => List.mem_append_right _ he⟩ (Z.Yd.off (v := undef) 26 true rfl (by first | (simp; done) | (simp_all; done)) (by intro c h; cases h)) ?_
        refine Z.t 14 rfl rfl rfl (by rfl) (by kernel_rfl) ⟨_, hs, by first | (simp; done) | exact fun e he => List.mem_append_right _ he⟩ (Z.Yd.off (v := undef) 26 true rfl (by first | (simp; done) | (simp_all; done)) (by intro c h; cases h)) ?_
        refine Z.t 15 rfl rfl rfl (by rfl) (by kernel_rfl) ⟨_, hs, by first | (simp; done) | exact fun e he => List.mem_append_right _ he⟩ (Z.Yd.off (v := undef) 26 true rfl (by first | (simp; done) | (simp_all; done)) (by intro c h; cases h)) ?_
        refine Z.t 16 rfl rfl rfl (by rfl) (by kernel_rfl) ⟨_, hs, by first | (simp; done) | exact fun e he => List.mem_append_right _ he⟩ (Z.Yd.off (v := undef) 26 true rfl (by first | (simp; done) | (simp_all; done)) (by intro c h; cases h)) ?_
        refine Z.t 17 rfl rfl rfl (by rfl) (by kernel_rfl) ⟨_, hs, by first | (simp; done) | exact fun e he => List.mem_append_right _ he⟩ (Z.Yd.off (v := undef) 26 true rfl (by first | (simp; done) | (simp_all; done)) (by intro c h; cases h)) ?_
        refine Z.yes (s := 26) (b := false) rfl rfl rfl ?_
        refine Z.tnS 26 true 18 rfl rfl (by kernel_rfl) rfl rfl (by simp) rfl (by rfl) (fun _ => ⟨_, hs, by first | (simp; done) | exact fun e he => List.mem_append_right _ he⟩) ?_
        refine Z.t 19 rfl rfl rfl (by rfl) (by kernel_rfl) ⟨_, hs, by first | (simp; done) | exact fun e he => List.mem_append_right _ he⟩ (Z.Yd.pickF rfl rfl) ?_
        refine Z.tb [20] (by kernel_rfl) rfl ⟨_, hs, by first | (simp; done) | exact fun e he => List.mem_append_right _ he⟩ rfl ?_
        refine Z.td (by rfl) (by kernel_rfl) ?_
        refine Z.only [4] rfl ?_
        refine Z.nthen ?_
        refine Z.ret ?_
        -- ret#1
        refine Z.out1 (by exact ⟨rfl, trivial⟩) ?_
        refine e _ ?_ _ hs
        rw [Bool.eq_iff_iff]
        simp only [decide_eq_true_eq, sm_iff hm hn]
        simp_all
        )
end Go.Proofs.Ythdhobnkclddhaa

/- Buckets: the document's Valid, New, Order. -/
namespace Go.Proofs.Ythdhobnkclddhaa
open Go.RowKit
set_option linter.unusedSimpArgs false
set_option linter.unusedVariables false
--newlaws

theorem ids_take {l : List LgV} {i : Nat} (hi : i < l.length) (h : ids (l.take i)) : ids (l.take (i + 1)) ↔ ∀ k : Nat, k < i → ¬ l[k]!.id = l[i]!.id := by
  rw [any_prefix hi h, List.any_eq_false]
  constructor
  · intro h1 k hk he
    have hkl : k < l.length := by omega
    have := h1 l[k] (List.mem_take_iff_getElem.2 ⟨k, by omega, rfl⟩)
    rw [getElem!_pos l k hkl, getElem!_pos l i hi] at he
    simp [he] at this
  · intro h1 x hx
    obtain ⟨k, hk, rfl⟩ := List.mem_take_iff_getElem.1 hx
    have hki : k < i := by omega
    have hkl : k < l.length := by omega
    have := h1 k hki
    rw [getElem!_pos l k hkl, getElem!_pos l i hi] at this
    simpa using this
set_option maxHeartbeats 1000000 in
set_option maxRecDepth 100000 in
theorem rv_valid (A : Option Addr) (n c : Nat) (l : List LgV) (w : World) (hx : Sl w A (l.flatMap LgV.cells)) (hl : l.length = n) :
    Calls Try.prog 13 #[.slice A n c] w (SX.Ret fun v w' => v = .bool (decide (okSet l)) ∧ SX.St w [] w' []) := by
  have hs := SX.St.start w
  refine Z.enter Try.func13 rfl Try.ntmps13 rfl rfl ?_
  refine Z.seq ?_
  refine Z.region ?_
  refine Z.lb 1 rfl ?_
  refine Z.lnil ?_
  refine Z.only [0] rfl ?_
  refine Z.nthen ?_
  refine Z.seq ?_
  refine Z.seq ?_
  refine Z.region ?_
  refine Z.lb 1 rfl ?_
  refine Z.l rfl rfl (by rfl) (Z.keepS hs) (Z.Yd.lenS rfl Try.underlying22) ?_
  refine Z.lb 2 rfl ?_
  refine Z.split (s := 9) rfl (fun hsp9 => ?_) (fun hsp9 => ?_)
  · first
      | (exfalso; simp at hsp9 <;> omega)
      | (
        refine Z.yes (s := 9) (b := true) rfl hsp9 rfl ?_
        (try simp at hsp9)
        refine Z.ls rfl rfl rfl (by rfl) ?_
        refine Z.ls rfl rfl rfl (by rfl) ?_
        refine Z.ls rfl rfl rfl (by rfl) ?_
        refine Z.l rfl rfl (by rfl) (Z.keepS hs) (Z.Yd.pickT rfl rfl) ?_
        refine Z.lnil ?_
        refine Z.only [0, 13] rfl ?_
        refine Z.nthen ?_
        refine Z.cond rfl (fun hc1 => ?_) (fun hc1 => ?_)
        · first
            | (exfalso; simp at hc1 <;> omega)
            | (
              (try simp at hc1)
              have hno : ¬ okSet l := by rintro ⟨h1, -⟩; omega
              refine Z.seq ?_
              refine Z.region ?_
              refine Z.lb 1 rfl ?_
              refine Z.lnil ?_
              refine Z.only [2] rfl ?_
              refine Z.nthen ?_
              refine Z.ret ?_
              repeat (first | refine Z.rthen ?_ | refine Z.rblock ?_ | refine Z.rscope ?_)
              -- ret#0
              refine Z.out1 (by exact ⟨rfl, trivial⟩) ?_
              first
              | exact ⟨_, rfl, by rw [decide_eq_false hno], hs.sub (List.nil_sublist _)⟩
              | (rw [List.take_of_length_le (by omega)] at h1 h2
                 exact ⟨_, rfl, by rw [decide_eq_true (show okSet l from ⟨by omega, h1, h2⟩)], hs⟩)
              )
        · first
            | (exfalso; simp at hc1 <;> omega)
            | (
              (try simp at hc1)
              obtain ⟨bb, off, rfl, hb0, hx2⟩ := Z.Sl.some hx (by rw [flat_len lg_len]; omega)
              refine Z.skip ?_
              refine Z.nthen ?_
              refine Z.seq ?_
              refine Z.seq ?_
              refine Z.region ?_
              refine Z.lb 1 rfl ?_
              refine Z.lnil ?_
              refine Z.only [0, 3] rfl ?_
              refine Z.nthen ?_
              refine Z.block ?_
              refine Z.loopk (ι := Nat) [0] rfl (fun i => [(3, [], .int .i64 (i : Int))]) (fun i wr => (i ≤ n ∧ (∀ x ∈ l.take i, okLg x) ∧ ids (l.take i)) ∧ SX.St w [] wr []) (fun i => n - i) 0 (by refine ⟨?_, trivial⟩ <;> (first | rfl | (refine Z.lookv rfl ?_; simp; done) | (refine Z.lookv rfl ?_; simp; omega))) ⟨⟨by omega, by simp, by simp [ids]⟩, hs⟩ ?_
              clear hs
              rintro i w4 ⟨⟨hi, h1, h2⟩, hs⟩
              refine Z.only [0, 3] rfl ?_
              refine Z.seq ?_
              refine Z.seq ?_
              refine Z.region ?_
              refine Z.lb 2 rfl ?_
              refine Z.l rfl rfl (by rfl) (Z.keepS hs) (Z.Yd.lenS rfl Try.underlying22) ?_
              refine Z.lb 1 rfl ?_
              refine Z.lnil ?_
              refine Z.only [0, 3, 17] rfl ?_
              refine Z.nthen ?_
              refine Z.cond rfl (fun hc4 => ?_) (fun hc4 => ?_)
              · first
                  | (exfalso; simp at hc4 <;> omega)
                  | (
                    (try simp at hc4)
                    have hlt : i < l.length := by omega
                    have hel : l[i]? = some l[i]! := by rw [getElem!_pos l i hlt]; exact List.getElem?_eq_getElem hlt
                    have hid := ids_take hlt h2
                    have hmm : l[i]! ∈ l := List.mem_of_getElem? hel
                    have htk : l.take (i + 1) = l.take i ++ [l[i]!] := by rw [List.take_add_one, hel]; rfl
                    generalize l[i]! = xi at hel hid hmm htk
                    have hone := lg_one xi
                    refine Z.skip ?_
                    refine Z.nthen ?_
                    refine Z.seq ?_
                    refine Z.block ?_
                    refine Z.seq ?_
                    refine Z.region ?_
                    refine Z.lb 2 rfl ?_
                    refine Z.l rfl rfl (by rfl) (Z.keepS hs) (Z.Yd.elem rfl rfl Try.underlying22 Try.sizeOf38 (fun hG => ⟨(by first | omega | (have hG' := Z.gh rfl hG; simp at hG'; omega)), (by first | omega | (have hG' := Z.gh rfl hG; simp at hG'; omega))⟩)) ?_
                    refine Z.l rfl rfl (by rfl) (Z.keepS hs) (Z.Yd.loadA _ rfl Try.isAgg38 (fun _ W hK j u hu => Z.cellXq (enc := LgV.cells) hx2.sx lg_len hel hu W hK) (by exact Try.sizeOf38)) ?_
                    refine Z.le rfl trivial ?_
                    refine Z.ZO.alloc rfl rfl (by rfl) Try.zeroValue38 rfl hs ?_
                    clear hs; intro g4 w4 hs
                    refine Z.le rfl trivial ?_
                    first | refine Z.ZO.storeA rfl rfl hs rfl rfl (by kernel_rfl) (by first | (simp [Value.oneCell']; done) | (refine Z.all_one ?_; assumption)) (by first | exact SX.at0 | exact SX.at1 | exact SX.at2 | exact SX.at3 | exact SX.at4 | exact SX.at5 | exact Z.at6 | exact Z.at7 | exact Z.at8 | exact Z.at9 | exact Z.at10 | exact Z.at11 | exact Z.at12) (by rfl) ?_ | refine Z.ZO.storeP rfl rfl hs rfl rfl (by kernel_rfl) (by first | (simp [Value.oneCell']; done) | (refine Z.all_one ?_; assumption)) (by first | exact SX.at0 | exact SX.at1 | exact SX.at2 | exact SX.at3 | exact SX.at4 | exact SX.at5 | exact Z.at6 | exact Z.at7 | exact Z.at8 | exact Z.at9 | exact Z.at10 | exact Z.at11 | exact Z.at12) (by first | decide | (simp; done) | (simp; omega)) ?_ | refine Z.ZO.storePR rfl rfl hs rfl rfl (by kernel_rfl) (by first | (simp [Value.oneCell']; done) | (refine Z.all_one ?_; assumption)) (by first | exact SX.at0 | exact SX.at1 | exact SX.at2 | exact SX.at3 | exact SX.at4 | exact SX.at5 | exact Z.at6 | exact Z.at7 | exact Z.at8 | exact Z.at9 | exact Z.at10 | exact Z.at11 | exact Z.at12) (by first | decide | (simp; done) | (simp; omega)) ?_
                    clear hs; intro ws hs
                    simp only [Nat.zero_add, Nat.add_zero, Nat.reduceAdd, Int.reduceToNat, Nat.reduceMul, List.set_cons_zero, List.set_cons_succ, List.setIfInBounds_toArray] at hs
                    try simp only [Z.putL, Nat.zero_add] at hs
                    refine Z.lnil ?_
                    refine Z.only [0, 3, 4] rfl ?_
                    refine Z.nthen ?_
                    refine Z.seq ?_
                    refine Z.seq ?_
                    refine Z.cutt (ι := Unit) [0, 3, 4] rfl (fun _ => [(71, [], .bool (!decide (okLg xi)))]) (fun _ wr => SX.St w [] wr [SX.Ent.blk g4 38 xi.cells.toArray]) ?_ ?_
                    · skip
                      refine Z.region ?_
                      refine Z.l rfl rfl (by rfl) (Z.keepS hs) (Z.Yd.fieldA (m := 0) rfl (by kernel_rfl)) ?_
                      refine Z.l rfl rfl (by rfl) (Z.keepS hs) (by first | exact Z.Yd.load rfl Try.isAgg3 (fun _ => Z.cellB (by first | ((repeat (first | exact List.mem_cons_self | refine List.mem_cons_of_mem _ ?_ | refine List.mem_append_right _ ?_)); done) | fail) rfl) | exact Z.Yd.load rfl Try.isAgg3 (fun _ => Z.cellO (by assumption) (by simp) (by assumption)) | fail "load 7.1") ?_
                      refine Z.lb 2 rfl ?_
                      refine Z.l rfl rfl (by rfl) (Z.keepS hs) (Z.Yd.fieldA (m := 0) rfl (by kernel_rfl)) ?_
                      refine Z.l rfl rfl (by rfl) (Z.keepS hs) (by first | exact Z.Yd.load rfl Try.isAgg3 (fun _ => Z.cellB (by first | ((repeat (first | exact List.mem_cons_self | refine List.mem_cons_of_mem _ ?_ | refine List.mem_append_right _ ?_)); done) | fail) rfl) | exact Z.Yd.load rfl Try.isAgg3 (fun _ => Z.cellO (by assumption) (by simp) (by assumption)) | fail "load 7.5") ?_
                      refine Z.lb 3 rfl ?_
                      refine Z.l rfl rfl (by rfl) (Z.keepS hs) (Z.Yd.fieldA (m := 1) rfl (by kernel_rfl)) ?_
                      refine Z.l rfl rfl (by rfl) (Z.keepS hs) (by first | exact Z.Yd.load rfl Try.isAgg3 (fun _ => Z.cellB (by first | ((repeat (first | exact List.mem_cons_self | refine List.mem_cons_of_mem _ ?_ | refine List.mem_append_right _ ?_)); done) | fail) rfl) | exact Z.Yd.load rfl Try.isAgg3 (fun _ => Z.cellO (by assumption) (by simp) (by assumption)) | fail "load 7.10") ?_
                      refine Z.lb 3 rfl ?_
                      refine Z.l rfl rfl (by rfl) (Z.keepS hs) (Z.Yd.fieldA (m := 1) rfl (by kernel_rfl)) ?_
                      refine Z.l rfl rfl (by rfl) (Z.keepS hs) (by first | exact Z.Yd.load rfl Try.isAgg3 (fun _ => Z.cellB (by first | ((repeat (first | exact List.mem_cons_self | refine List.mem_cons_of_mem _ ?_ | refine List.mem_append_right _ ?_)); done) | fail) rfl) | exact Z.Yd.load rfl Try.isAgg3 (fun _ => Z.cellO (by assumption) (by simp) (by assumption)) | fail "load 7.15") ?_
                      refine Z.lb 3 rfl ?_
                      refine Z.l rfl rfl (by rfl) (Z.keepS hs) (Z.Yd.fieldA (m := 2) rfl (by kernel_rfl)) ?_
                      refine Z.l rfl rfl (by rfl) (Z.keepS hs) (by first | exact Z.Yd.load rfl Try.isAgg3 (fun _ => Z.cellB (by first | ((repeat (first | exact List.mem_cons_self | refine List.mem_cons_of_mem _ ?_ | refine List.mem_append_right _ ?_)); done) | fail) rfl) | exact Z.Yd.load rfl Try.isAgg3 (fun _ => Z.cellO (by assumption) (by simp) (by assumption)) | fail "load 7.20") ?_
                      refine Z.lb 3 rfl ?_
                      refine Z.l rfl rfl (by rfl) (Z.keepS hs) (Z.Yd.fieldA (m := 2) rfl (by kernel_rfl)) ?_
                      refine Z.l rfl rfl (by rfl) (Z.keepS hs) (by first | exact Z.Yd.load rfl Try.isAgg3 (fun _ => Z.cellB (by first | ((repeat (first | exact List.mem_cons_self | refine List.mem_cons_of_mem _ ?_ | refine List.mem_append_right _ ?_)); done) | fail) rfl) | exact Z.Yd.load rfl Try.isAgg3 (fun _ => Z.cellO (by assumption) (by simp) (by assumption)) | fail "load 7.25") ?_
                      refine Z.lb 3 rfl ?_
                      refine Z.l rfl rfl (by rfl) (Z.keepS hs) (Z.Yd.fieldA (m := 3) rfl (by kernel_rfl)) ?_
                      refine Z.l rfl rfl (by rfl) (Z.keepS hs) (by first | exact Z.Yd.load rfl Try.isAgg3 (fun _ => Z.cellB (by first | ((repeat (first | exact List.mem_cons_self | refine List.mem_cons_of_mem _ ?_ | refine List.mem_append_right _ ?_)); done) | fail) rfl) | exact Z.Yd.load rfl Try.isAgg3 (fun _ => Z.cellO (by assumption) (by simp) (by assumption)) | fail "load 7.30") ?_
                      refine Z.lb 3 rfl ?_
                      refine Z.l rfl rfl (by rfl) (Z.keepS hs) (Z.Yd.fieldA (m := 3) rfl (by kernel_rfl)) ?_
                      refine Z.l rfl rfl (by rfl) (Z.keepS hs) (by first | exact Z.Yd.load rfl Try.isAgg3 (fun _ => Z.cellB (by first | ((repeat (first | exact List.mem_cons_self | refine List.mem_cons_of_mem _ ?_ | refine List.mem_append_right _ ?_)); done) | fail) rfl) | exact Z.Yd.load rfl Try.isAgg3 (fun _ => Z.cellO (by assumption) (by simp) (by assumption)) | fail "load 7.35") ?_
                      refine Z.lb 3 rfl ?_
                      refine Z.l rfl rfl (by rfl) (Z.keepS hs) (Z.Yd.fieldA (m := 4) rfl (by kernel_rfl)) ?_
                      refine Z.l rfl rfl (by rfl) (Z.keepS hs) (by first | exact Z.Yd.load rfl Try.isAgg3 (fun _ => Z.cellB (by first | ((repeat (first | exact List.mem_cons_self | refine List.mem_cons_of_mem _ ?_ | refine List.mem_append_right _ ?_)); done) | fail) rfl) | exact Z.Yd.load rfl Try.isAgg3 (fun _ => Z.cellO (by assumption) (by simp) (by assumption)) | fail "load 7.40") ?_
                      refine Z.lb 3 rfl ?_
                      refine Z.l rfl rfl (by rfl) (Z.keepS hs) (Z.Yd.fieldA (m := 4) rfl (by kernel_rfl)) ?_
                      refine Z.l rfl rfl (by rfl) (Z.keepS hs) (by first | exact Z.Yd.load rfl Try.isAgg3 (fun _ => Z.cellB (by first | ((repeat (first | exact List.mem_cons_self | refine List.mem_cons_of_mem _ ?_ | refine List.mem_append_right _ ?_)); done) | fail) rfl) | exact Z.Yd.load rfl Try.isAgg3 (fun _ => Z.cellO (by assumption) (by simp) (by assumption)) | fail "load 7.45") ?_
                      refine Z.lb 2 rfl ?_
                      refine Z.lnil ?_
                      refine Z.only [0, 3, 4, 71] rfl ?_
                      refine Z.nthen ?_
                      exact Z.meet () (by refine ⟨?_, ?_, ?_, ?_, trivial⟩ <;> first | rfl | ((refine Z.lookv rfl ?_; congr 1; rw [Bool.eq_iff_iff]; simp only [Bool.not_eq_true', decide_eq_false_iff_not]; unfold okLg; simp; omega))) hs
                    · clear hs
                      rintro _ w7 hs
                      refine Z.only [0, 3, 4, 71] rfl ?_
                      refine Z.cond rfl (fun hc7 => ?_) (fun hc7 => ?_)
                      · first
                          | (exfalso; simp at hc7 <;> omega)
                          | (
                            (try simp at hc7)
                            have hno : ¬ okSet l := fun h => by have := h.2.1 xi hmm; contradiction
                            refine Z.seq ?_
                            refine Z.region ?_
                            refine Z.lb 1 rfl ?_
                            refine Z.lnil ?_
                            refine Z.only [2] rfl ?_
                            refine Z.nthen ?_
                            refine Z.ret ?_
                            repeat (first | refine Z.rthen ?_ | refine Z.rblock ?_ | refine Z.rscope ?_)
                            -- ret#1
                            refine Z.out1 (by exact ⟨rfl, trivial⟩) ?_
                            first
                            | exact ⟨_, rfl, by rw [decide_eq_false hno], hs.sub (List.nil_sublist _)⟩
                            | (rw [List.take_of_length_le (by omega)] at h1 h2
                               exact ⟨_, rfl, by rw [decide_eq_true (show okSet l from ⟨by omega, h1, h2⟩)], hs⟩)
                            )
                      · first
                          | (exfalso; simp at hc7 <;> omega)
                          | (
                            (try simp at hc7)
                            have hok : okLg xi := by assumption
                            refine Z.skip ?_
                            refine Z.nthen ?_
                            refine Z.seq ?_
                            refine Z.region ?_
                            refine Z.lb 1 rfl ?_
                            refine Z.lnil ?_
                            refine Z.only [0, 3, 4, 5] rfl ?_
                            refine Z.nthen ?_
                            refine Z.block ?_
                            refine Z.loopk (ι := Nat) [0, 3, 4] rfl (fun k => [(5, [], .int .i64 (k : Int))]) (fun k wr => (k ≤ i ∧ ∀ j : Nat, j < k → ¬ l[j]!.id = xi.id) ∧ SX.St w [] wr [SX.Ent.blk g4 38 xi.cells.toArray]) (fun k => i - k) 0 (by refine ⟨?_, trivial⟩ <;> (first | rfl | (refine Z.lookv rfl ?_; simp; done) | (refine Z.lookv rfl ?_; simp; omega))) ⟨⟨by omega, fun j hj => absurd hj (by omega)⟩, hs⟩ ?_
                            clear hs
                            rintro k w10 ⟨⟨hk, h3⟩, hs⟩
                            refine Z.only [0, 3, 4, 5] rfl ?_
                            refine Z.seq ?_
                            refine Z.seq ?_
                            refine Z.region ?_
                            refine Z.lb 3 rfl ?_
                            refine Z.lnil ?_
                            refine Z.only [0, 3, 4, 5, 74] rfl ?_
                            refine Z.nthen ?_
                            refine Z.cond rfl (fun hc10 => ?_) (fun hc10 => ?_)
                            · first
                                | (exfalso; simp at hc10 <;> omega)
                                | (
                                  (try simp at hc10)
                                  have hkl : l[k]? = some l[k]! := by rw [getElem!_pos l k (by omega)]; exact List.getElem?_eq_getElem (by omega)
                                  have h3k : ∀ j : Nat, j < k + 1 → j < k ∨ j = k := fun j hj => by omega
                                  refine Z.skip ?_
                                  refine Z.nthen ?_
                                  refine Z.seq ?_
                                  refine Z.block ?_
                                  refine Z.seq ?_
                                  refine Z.drawK (fun _ => true) mixed hs ?_
                                  clear hs; intro wd12 hs
                                  refine Z.tb [0, 1] (by kernel_rfl) rfl ⟨_, hs, by first | (simp; done) | exact fun e he => List.mem_append_right _ he⟩ rfl ?_
                                  refine Z.t 2 rfl rfl rfl (by rfl) (by kernel_rfl) ⟨_, hs, by first | (simp; done) | exact fun e he => List.mem_append_right _ he⟩ (Z.Yd.elem rfl rfl Try.underlying22 Try.sizeOf38 (fun hG => ⟨(by first | omega | (have hG' := Z.gh rfl hG; simp at hG'; omega)), (by first | omega | (have hG' := Z.gh rfl hG; simp at hG'; omega))⟩)) ?_
                                  refine Z.t 3 rfl rfl rfl (by rfl) (by kernel_rfl) ⟨_, hs, by first | (simp; done) | exact fun e he => List.mem_append_right _ he⟩ (Z.Yd.fieldA (m := 0) rfl (by kernel_rfl)) ?_
                                  refine Z.t 4 rfl rfl rfl (by rfl) (by kernel_rfl) ⟨_, hs, by first | (simp; done) | exact fun e he => List.mem_append_right _ he⟩ (Z.Yd.load rfl Try.isAgg3 (fun _ => Z.cellXf hx2.sx lg_len hkl rfl)) ?_
                                  refine Z.t 5 rfl rfl rfl (by rfl) (by kernel_rfl) ⟨_, hs, by first | (simp; done) | exact fun e he => List.mem_append_right _ he⟩ (Z.Yd.fieldA (m := 0) rfl (by kernel_rfl)) ?_
                                  refine Z.t 6 rfl rfl rfl (by rfl) (by kernel_rfl) ⟨_, hs, by first | (simp; done) | exact fun e he => List.mem_append_right _ he⟩ (by first | exact Z.Yd.load rfl Try.isAgg3 (fun _ => Z.cellB (by first | ((repeat (first | exact List.mem_cons_self | refine List.mem_cons_of_mem _ ?_ | refine List.mem_append_right _ ?_)); done) | fail) rfl) | exact Z.Yd.load rfl Try.isAgg3 (fun _ => Z.cellO (by assumption) (by simp) (by assumption)) | fail "load 12.6") ?_
                                  refine Z.tb [7] (by kernel_rfl) rfl ⟨_, hs, by first | (simp; done) | exact fun e he => List.mem_append_right _ he⟩ rfl ?_
                                  refine Z.td (by rfl) (by kernel_rfl) ?_
                                  refine Z.only [0, 3, 4, 5, 84] rfl ?_
                                  refine Z.nthen ?_
                                  refine Z.cond rfl (fun hc12 => ?_) (fun hc12 => ?_)
                                  · first
                                      | (exfalso; simp at hc12 <;> omega)
                                      | (
                                        (try simp at hc12)
                                        have hno : ¬ okSet l := fun h => by
                                          have h4 := hid.1 (h.2.2.sublist (List.take_sublist _ _)) k (by omega)
                                          simp at h4
                                          contradiction
                                        refine Z.seq ?_
                                        refine Z.region ?_
                                        refine Z.lb 1 rfl ?_
                                        refine Z.lnil ?_
                                        refine Z.only [2] rfl ?_
                                        refine Z.nthen ?_
                                        refine Z.ret ?_
                                        repeat (first | refine Z.rthen ?_ | refine Z.rblock ?_ | refine Z.rscope ?_)
                                        -- ret#2
                                        refine Z.out1 (by exact ⟨rfl, trivial⟩) ?_
                                        first
                                        | exact ⟨_, rfl, by rw [decide_eq_false hno], hs.sub (List.nil_sublist _)⟩
                                        | (rw [List.take_of_length_le (by omega)] at h1 h2
                                           exact ⟨_, rfl, by rw [decide_eq_true (show okSet l from ⟨by omega, h1, h2⟩)], hs⟩)
                                        )
                                  · first
                                      | (exfalso; simp at hc12 <;> omega)
                                      | (
                                        (try simp at hc12)
                                        have hne : ¬ l[k]!.id = xi.id := by simpa using hc12
                                        refine Z.skip ?_
                                        refine Z.nblock ?_
                                        refine Z.nthen ?_
                                        refine Z.region ?_
                                        refine Z.lb 1 rfl ?_
                                        refine Z.l rfl rfl (by rfl) (Z.keepS hs) (Z.Yd.add rfl rfl (fun hG => Z.wi64 (by first | omega | (have hG' := Z.gh rfl hG; simp at hG'; omega)))) ?_
                                        refine Z.lb 1 rfl ?_
                                        refine Z.lnil ?_
                                        refine Z.only [0, 3, 4, 5] rfl ?_
                                        refine Z.nthen ?_
                                        refine Z.again (k + 1) (by refine ⟨?_, ?_, ?_, ?_, trivial⟩ <;> (first | rfl | (refine Z.lookv rfl ?_; simp; done) | (refine Z.lookv rfl ?_; simp; omega))) ⟨⟨by omega, fun j hj => ?_⟩, hs⟩ (by omega)
                                        rcases h3k j hj with h | rfl
                                        · exact h3 j h
                                        · exact hne
                                        )
                                  )
                            · first
                                | (exfalso; simp at hc10 <;> omega)
                                | (
                                  (try simp at hc10)
                                  refine Z.exit ?_
                                  refine Z.xthen ?_
                                  refine Z.xthen ?_
                                  refine Z.xblock ?_
                                  refine Z.nblock ?_
                                  refine Z.nthen ?_
                                  refine Z.region ?_
                                  refine Z.lb 1 rfl ?_
                                  refine Z.l rfl rfl (by rfl) (Z.keepS hs) (Z.Yd.add rfl rfl (fun hG => Z.wi64 (by first | omega | (have hG' := Z.gh rfl hG; simp at hG'; omega)))) ?_
                                  refine Z.lb 1 rfl ?_
                                  refine Z.lnil ?_
                                  refine Z.only [0, 3] rfl ?_
                                  refine Z.nthen ?_
                                  refine Z.again (i + 1) (by refine ⟨?_, ?_, trivial⟩ <;> (first | rfl | (refine Z.lookv rfl ?_; simp; done) | (refine Z.lookv rfl ?_; simp; omega))) ⟨⟨by omega, ?_, hid.2 fun j hj => h3 j (by omega)⟩, hs.sub (List.nil_sublist _)⟩ (by omega)
                                  intro x hx
                                  rw [htk] at hx
                                  rcases List.mem_append.1 hx with hx | hx
                                  · exact h1 x hx
                                  · obtain rfl : x = xi := by simpa using hx
                                    exact hok
                                  )
                            )
                    )
              · first
                  | (exfalso; simp at hc4 <;> omega)
                  | (
                    (try simp at hc4)
                    refine Z.exit ?_
                    refine Z.xthen ?_
                    refine Z.xthen ?_
                    refine Z.xblock ?_
                    refine Z.nthen ?_
                    refine Z.seq ?_
                    refine Z.region ?_
                    refine Z.lb 1 rfl ?_
                    refine Z.lnil ?_
                    refine Z.only [2] rfl ?_
                    refine Z.nthen ?_
                    refine Z.ret ?_
                    -- ret#3
                    refine Z.out1 (by exact ⟨rfl, trivial⟩) ?_
                    first
                    | exact ⟨_, rfl, by rw [decide_eq_false hno], hs.sub (List.nil_sublist _)⟩
                    | (rw [List.take_of_length_le (by omega)] at h1 h2
                       exact ⟨_, rfl, by rw [decide_eq_true (show okSet l from ⟨by omega, h1, h2⟩)], hs⟩)
                    )
              )
        )
  · first
      | (exfalso; simp at hsp9 <;> omega)
      | (
        refine Z.yes (s := 9) (b := false) rfl hsp9 rfl ?_
        (try simp at hsp9)
        refine Z.lb 1 rfl ?_
        refine Z.l rfl rfl (by rfl) (Z.keepS hs) (Z.Yd.lenS rfl Try.underlying22) ?_
        refine Z.lb 1 rfl ?_
        refine Z.yes (s := 9) (b := false) rfl rfl rfl ?_
        refine Z.l rfl rfl (by rfl) (Z.keepS hs) (Z.Yd.pickF rfl rfl) ?_
        refine Z.lnil ?_
        refine Z.only [0, 13] rfl ?_
        refine Z.nthen ?_
        refine Z.cond rfl (fun hc1 => ?_) (fun hc1 => ?_)
        · first
            | (exfalso; simp at hc1 <;> omega)
            | (
              (try simp at hc1)
              have hno : ¬ okSet l := by rintro ⟨h1, -⟩; omega
              refine Z.seq ?_
              refine Z.region ?_
              refine Z.lb 1 rfl ?_
              refine Z.lnil ?_
              refine Z.only [2] rfl ?_
              refine Z.nthen ?_
              refine Z.ret ?_
              repeat (first | refine Z.rthen ?_ | refine Z.rblock ?_ | refine Z.rscope ?_)
              -- ret#4
              refine Z.out1 (by exact ⟨rfl, trivial⟩) ?_
              first
              | exact ⟨_, rfl, by rw [decide_eq_false hno], hs.sub (List.nil_sublist _)⟩
              | (rw [List.take_of_length_le (by omega)] at h1 h2
                 exact ⟨_, rfl, by rw [decide_eq_true (show okSet l from ⟨by omega, h1, h2⟩)], hs⟩)
              )
        · first
            | (exfalso; simp at hc1 <;> omega)
            | (
              (try simp at hc1)
              obtain ⟨bb, off, rfl, hb0, hx2⟩ := Z.Sl.some hx (by rw [flat_len lg_len]; omega)
              refine Z.skip ?_
              refine Z.nthen ?_
              refine Z.seq ?_
              refine Z.seq ?_
              refine Z.region ?_
              refine Z.lb 1 rfl ?_
              refine Z.lnil ?_
              refine Z.only [0, 3] rfl ?_
              refine Z.nthen ?_
              refine Z.block ?_
              refine Z.loopk (ι := Nat) [0] rfl (fun i => [(3, [], .int .i64 (i : Int))]) (fun i wr => (i ≤ n ∧ (∀ x ∈ l.take i, okLg x) ∧ ids (l.take i)) ∧ SX.St w [] wr []) (fun i => n - i) 0 (by refine ⟨?_, trivial⟩ <;> (first | rfl | (refine Z.lookv rfl ?_; simp; done) | (refine Z.lookv rfl ?_; simp; omega))) ⟨⟨by omega, by simp, by simp [ids]⟩, hs⟩ ?_
              clear hs
              rintro i w4 ⟨⟨hi, h1, h2⟩, hs⟩
              refine Z.only [0, 3] rfl ?_
              refine Z.seq ?_
              refine Z.seq ?_
              refine Z.region ?_
              refine Z.lb 2 rfl ?_
              refine Z.l rfl rfl (by rfl) (Z.keepS hs) (Z.Yd.lenS rfl Try.underlying22) ?_
              refine Z.lb 1 rfl ?_
              refine Z.lnil ?_
              refine Z.only [0, 3, 17] rfl ?_
              refine Z.nthen ?_
              refine Z.cond rfl (fun hc4 => ?_) (fun hc4 => ?_)
              · first
                  | (exfalso; simp at hc4 <;> omega)
                  | (
                    (try simp at hc4)
                    have hlt : i < l.length := by omega
                    have hel : l[i]? = some l[i]! := by rw [getElem!_pos l i hlt]; exact List.getElem?_eq_getElem hlt
                    have hid := ids_take hlt h2
                    have hmm : l[i]! ∈ l := List.mem_of_getElem? hel
                    have htk : l.take (i + 1) = l.take i ++ [l[i]!] := by rw [List.take_add_one, hel]; rfl
                    generalize l[i]! = xi at hel hid hmm htk
                    have hone := lg_one xi
                    refine Z.skip ?_
                    refine Z.nthen ?_
                    refine Z.seq ?_
                    refine Z.block ?_
                    refine Z.seq ?_
                    refine Z.region ?_
                    refine Z.lb 2 rfl ?_
                    refine Z.l rfl rfl (by rfl) (Z.keepS hs) (Z.Yd.elem rfl rfl Try.underlying22 Try.sizeOf38 (fun hG => ⟨(by first | omega | (have hG' := Z.gh rfl hG; simp at hG'; omega)), (by first | omega | (have hG' := Z.gh rfl hG; simp at hG'; omega))⟩)) ?_
                    refine Z.l rfl rfl (by rfl) (Z.keepS hs) (Z.Yd.loadA _ rfl Try.isAgg38 (fun _ W hK j u hu => Z.cellXq (enc := LgV.cells) hx2.sx lg_len hel hu W hK) (by exact Try.sizeOf38)) ?_
                    refine Z.le rfl trivial ?_
                    refine Z.ZO.alloc rfl rfl (by rfl) Try.zeroValue38 rfl hs ?_
                    clear hs; intro g4 w4 hs
                    refine Z.le rfl trivial ?_
                    first | refine Z.ZO.storeA rfl rfl hs rfl rfl (by kernel_rfl) (by first | (simp [Value.oneCell']; done) | (refine Z.all_one ?_; assumption)) (by first | exact SX.at0 | exact SX.at1 | exact SX.at2 | exact SX.at3 | exact SX.at4 | exact SX.at5 | exact Z.at6 | exact Z.at7 | exact Z.at8 | exact Z.at9 | exact Z.at10 | exact Z.at11 | exact Z.at12) (by rfl) ?_ | refine Z.ZO.storeP rfl rfl hs rfl rfl (by kernel_rfl) (by first | (simp [Value.oneCell']; done) | (refine Z.all_one ?_; assumption)) (by first | exact SX.at0 | exact SX.at1 | exact SX.at2 | exact SX.at3 | exact SX.at4 | exact SX.at5 | exact Z.at6 | exact Z.at7 | exact Z.at8 | exact Z.at9 | exact Z.at10 | exact Z.at11 | exact Z.at12) (by first | decide | (simp; done) | (simp; omega)) ?_ | refine Z.ZO.storePR rfl rfl hs rfl rfl (by kernel_rfl) (by first | (simp [Value.oneCell']; done) | (refine Z.all_one ?_; assumption)) (by first | exact SX.at0 | exact SX.at1 | exact SX.at2 | exact SX.at3 | exact SX.at4 | exact SX.at5 | exact Z.at6 | exact Z.at7 | exact Z.at8 | exact Z.at9 | exact Z.at10 | exact Z.at11 | exact Z.at12) (by first | decide | (simp; done) | (simp; omega)) ?_
                    clear hs; intro ws hs
                    simp only [Nat.zero_add, Nat.add_zero, Nat.reduceAdd, Int.reduceToNat, Nat.reduceMul, List.set_cons_zero, List.set_cons_succ, List.setIfInBounds_toArray] at hs
                    try simp only [Z.putL, Nat.zero_add] at hs
                    refine Z.lnil ?_
                    refine Z.only [0, 3, 4] rfl ?_
                    refine Z.nthen ?_
                    refine Z.seq ?_
                    refine Z.seq ?_
                    refine Z.cutt (ι := Unit) [0, 3, 4] rfl (fun _ => [(71, [], .bool (!decide (okLg xi)))]) (fun _ wr => SX.St w [] wr [SX.Ent.blk g4 38 xi.cells.toArray]) ?_ ?_
                    · skip
                      refine Z.region ?_
                      refine Z.l rfl rfl (by rfl) (Z.keepS hs) (Z.Yd.fieldA (m := 0) rfl (by kernel_rfl)) ?_
                      refine Z.l rfl rfl (by rfl) (Z.keepS hs) (by first | exact Z.Yd.load rfl Try.isAgg3 (fun _ => Z.cellB (by first | ((repeat (first | exact List.mem_cons_self | refine List.mem_cons_of_mem _ ?_ | refine List.mem_append_right _ ?_)); done) | fail) rfl) | exact Z.Yd.load rfl Try.isAgg3 (fun _ => Z.cellO (by assumption) (by simp) (by assumption)) | fail "load 7.1") ?_
                      refine Z.lb 2 rfl ?_
                      refine Z.l rfl rfl (by rfl) (Z.keepS hs) (Z.Yd.fieldA (m := 0) rfl (by kernel_rfl)) ?_
                      refine Z.l rfl rfl (by rfl) (Z.keepS hs) (by first | exact Z.Yd.load rfl Try.isAgg3 (fun _ => Z.cellB (by first | ((repeat (first | exact List.mem_cons_self | refine List.mem_cons_of_mem _ ?_ | refine List.mem_append_right _ ?_)); done) | fail) rfl) | exact Z.Yd.load rfl Try.isAgg3 (fun _ => Z.cellO (by assumption) (by simp) (by assumption)) | fail "load 7.5") ?_
                      refine Z.lb 3 rfl ?_
                      refine Z.l rfl rfl (by rfl) (Z.keepS hs) (Z.Yd.fieldA (m := 1) rfl (by kernel_rfl)) ?_
                      refine Z.l rfl rfl (by rfl) (Z.keepS hs) (by first | exact Z.Yd.load rfl Try.isAgg3 (fun _ => Z.cellB (by first | ((repeat (first | exact List.mem_cons_self | refine List.mem_cons_of_mem _ ?_ | refine List.mem_append_right _ ?_)); done) | fail) rfl) | exact Z.Yd.load rfl Try.isAgg3 (fun _ => Z.cellO (by assumption) (by simp) (by assumption)) | fail "load 7.10") ?_
                      refine Z.lb 3 rfl ?_
                      refine Z.l rfl rfl (by rfl) (Z.keepS hs) (Z.Yd.fieldA (m := 1) rfl (by kernel_rfl)) ?_
                      refine Z.l rfl rfl (by rfl) (Z.keepS hs) (by first | exact Z.Yd.load rfl Try.isAgg3 (fun _ => Z.cellB (by first | ((repeat (first | exact List.mem_cons_self | refine List.mem_cons_of_mem _ ?_ | refine List.mem_append_right _ ?_)); done) | fail) rfl) | exact Z.Yd.load rfl Try.isAgg3 (fun _ => Z.cellO (by assumption) (by simp) (by assumption)) | fail "load 7.15") ?_
                      refine Z.lb 3 rfl ?_
                      refine Z.l rfl rfl (by rfl) (Z.keepS hs) (Z.Yd.fieldA (m := 2) rfl (by kernel_rfl)) ?_
                      refine Z.l rfl rfl (by rfl) (Z.keepS hs) (by first | exact Z.Yd.load rfl Try.isAgg3 (fun _ => Z.cellB (by first | ((repeat (first | exact List.mem_cons_self | refine List.mem_cons_of_mem _ ?_ | refine List.mem_append_right _ ?_)); done) | fail) rfl) | exact Z.Yd.load rfl Try.isAgg3 (fun _ => Z.cellO (by assumption) (by simp) (by assumption)) | fail "load 7.20") ?_
                      refine Z.lb 3 rfl ?_
                      refine Z.l rfl rfl (by rfl) (Z.keepS hs) (Z.Yd.fieldA (m := 2) rfl (by kernel_rfl)) ?_
                      refine Z.l rfl rfl (by rfl) (Z.keepS hs) (by first | exact Z.Yd.load rfl Try.isAgg3 (fun _ => Z.cellB (by first | ((repeat (first | exact List.mem_cons_self | refine List.mem_cons_of_mem _ ?_ | refine List.mem_append_right _ ?_)); done) | fail) rfl) | exact Z.Yd.load rfl Try.isAgg3 (fun _ => Z.cellO (by assumption) (by simp) (by assumption)) | fail "load 7.25") ?_
                      refine Z.lb 3 rfl ?_
                      refine Z.l rfl rfl (by rfl) (Z.keepS hs) (Z.Yd.fieldA (m := 3) rfl (by kernel_rfl)) ?_
                      refine Z.l rfl rfl (by rfl) (Z.keepS hs) (by first | exact Z.Yd.load rfl Try.isAgg3 (fun _ => Z.cellB (by first | ((repeat (first | exact List.mem_cons_self | refine List.mem_cons_of_mem _ ?_ | refine List.mem_append_right _ ?_)); done) | fail) rfl) | exact Z.Yd.load rfl Try.isAgg3 (fun _ => Z.cellO (by assumption) (by simp) (by assumption)) | fail "load 7.30") ?_
                      refine Z.lb 3 rfl ?_
                      refine Z.l rfl rfl (by rfl) (Z.keepS hs) (Z.Yd.fieldA (m := 3) rfl (by kernel_rfl)) ?_
                      refine Z.l rfl rfl (by rfl) (Z.keepS hs) (by first | exact Z.Yd.load rfl Try.isAgg3 (fun _ => Z.cellB (by first | ((repeat (first | exact List.mem_cons_self | refine List.mem_cons_of_mem _ ?_ | refine List.mem_append_right _ ?_)); done) | fail) rfl) | exact Z.Yd.load rfl Try.isAgg3 (fun _ => Z.cellO (by assumption) (by simp) (by assumption)) | fail "load 7.35") ?_
                      refine Z.lb 3 rfl ?_
                      refine Z.l rfl rfl (by rfl) (Z.keepS hs) (Z.Yd.fieldA (m := 4) rfl (by kernel_rfl)) ?_
                      refine Z.l rfl rfl (by rfl) (Z.keepS hs) (by first | exact Z.Yd.load rfl Try.isAgg3 (fun _ => Z.cellB (by first | ((repeat (first | exact List.mem_cons_self | refine List.mem_cons_of_mem _ ?_ | refine List.mem_append_right _ ?_)); done) | fail) rfl) | exact Z.Yd.load rfl Try.isAgg3 (fun _ => Z.cellO (by assumption) (by simp) (by assumption)) | fail "load 7.40") ?_
                      refine Z.lb 3 rfl ?_
                      refine Z.l rfl rfl (by rfl) (Z.keepS hs) (Z.Yd.fieldA (m := 4) rfl (by kernel_rfl)) ?_
                      refine Z.l rfl rfl (by rfl) (Z.keepS hs) (by first | exact Z.Yd.load rfl Try.isAgg3 (fun _ => Z.cellB (by first | ((repeat (first | exact List.mem_cons_self | refine List.mem_cons_of_mem _ ?_ | refine List.mem_append_right _ ?_)); done) | fail) rfl) | exact Z.Yd.load rfl Try.isAgg3 (fun _ => Z.cellO (by assumption) (by simp) (by assumption)) | fail "load 7.45") ?_
                      refine Z.lb 2 rfl ?_
                      refine Z.lnil ?_
                      refine Z.only [0, 3, 4, 71] rfl ?_
                      refine Z.nthen ?_
                      exact Z.meet () (by refine ⟨?_, ?_, ?_, ?_, trivial⟩ <;> first | rfl | ((refine Z.lookv rfl ?_; congr 1; rw [Bool.eq_iff_iff]; simp only [Bool.not_eq_true', decide_eq_false_iff_not]; unfold okLg; simp; omega))) hs
                    · clear hs
                      rintro _ w7 hs
                      refine Z.only [0, 3, 4, 71] rfl ?_
                      refine Z.cond rfl (fun hc7 => ?_) (fun hc7 => ?_)
                      · first
                          | (exfalso; simp at hc7 <;> omega)
                          | (
                            (try simp at hc7)
                            have hno : ¬ okSet l := fun h => by have := h.2.1 xi hmm; contradiction
                            refine Z.seq ?_
                            refine Z.region ?_
                            refine Z.lb 1 rfl ?_
                            refine Z.lnil ?_
                            refine Z.only [2] rfl ?_
                            refine Z.nthen ?_
                            refine Z.ret ?_
                            repeat (first | refine Z.rthen ?_ | refine Z.rblock ?_ | refine Z.rscope ?_)
                            -- ret#5
                            refine Z.out1 (by exact ⟨rfl, trivial⟩) ?_
                            first
                            | exact ⟨_, rfl, by rw [decide_eq_false hno], hs.sub (List.nil_sublist _)⟩
                            | (rw [List.take_of_length_le (by omega)] at h1 h2
                               exact ⟨_, rfl, by rw [decide_eq_true (show okSet l from ⟨by omega, h1, h2⟩)], hs⟩)
                            )
                      · first
                          | (exfalso; simp at hc7 <;> omega)
                          | (
                            (try simp at hc7)
                            have hok : okLg xi := by assumption
                            refine Z.skip ?_
                            refine Z.nthen ?_
                            refine Z.seq ?_
                            refine Z.region ?_
                            refine Z.lb 1 rfl ?_
                            refine Z.lnil ?_
                            refine Z.only [0, 3, 4, 5] rfl ?_
                            refine Z.nthen ?_
                            refine Z.block ?_
                            refine Z.loopk (ι := Nat) [0, 3, 4] rfl (fun k => [(5, [], .int .i64 (k : Int))]) (fun k wr => (k ≤ i ∧ ∀ j : Nat, j < k → ¬ l[j]!.id = xi.id) ∧ SX.St w [] wr [SX.Ent.blk g4 38 xi.cells.toArray]) (fun k => i - k) 0 (by refine ⟨?_, trivial⟩ <;> (first | rfl | (refine Z.lookv rfl ?_; simp; done) | (refine Z.lookv rfl ?_; simp; omega))) ⟨⟨by omega, fun j hj => absurd hj (by omega)⟩, hs⟩ ?_
                            clear hs
                            rintro k w10 ⟨⟨hk, h3⟩, hs⟩
                            refine Z.only [0, 3, 4, 5] rfl ?_
                            refine Z.seq ?_
                            refine Z.seq ?_
                            refine Z.region ?_
                            refine Z.lb 3 rfl ?_
                            refine Z.lnil ?_
                            refine Z.only [0, 3, 4, 5, 74] rfl ?_
                            refine Z.nthen ?_
                            refine Z.cond rfl (fun hc10 => ?_) (fun hc10 => ?_)
                            · first
                                | (exfalso; simp at hc10 <;> omega)
                                | (
                                  (try simp at hc10)
                                  have hkl : l[k]? = some l[k]! := by rw [getElem!_pos l k (by omega)]; exact List.getElem?_eq_getElem (by omega)
                                  have h3k : ∀ j : Nat, j < k + 1 → j < k ∨ j = k := fun j hj => by omega
                                  refine Z.skip ?_
                                  refine Z.nthen ?_
                                  refine Z.seq ?_
                                  refine Z.block ?_
                                  refine Z.seq ?_
                                  refine Z.drawK (fun _ => true) mixed hs ?_
                                  clear hs; intro wd12 hs
                                  refine Z.tb [0, 1] (by kernel_rfl) rfl ⟨_, hs, by first | (simp; done) | exact fun e he => List.mem_append_right _ he⟩ rfl ?_
                                  refine Z.t 2 rfl rfl rfl (by rfl) (by kernel_rfl) ⟨_, hs, by first | (simp; done) | exact fun e he => List.mem_append_right _ he⟩ (Z.Yd.elem rfl rfl Try.underlying22 Try.sizeOf38 (fun hG => ⟨(by first | omega | (have hG' := Z.gh rfl hG; simp at hG'; omega)), (by first | omega | (have hG' := Z.gh rfl hG; simp at hG'; omega))⟩)) ?_
                                  refine Z.t 3 rfl rfl rfl (by rfl) (by kernel_rfl) ⟨_, hs, by first | (simp; done) | exact fun e he => List.mem_append_right _ he⟩ (Z.Yd.fieldA (m := 0) rfl (by kernel_rfl)) ?_
                                  refine Z.t 4 rfl rfl rfl (by rfl) (by kernel_rfl) ⟨_, hs, by first | (simp; done) | exact fun e he => List.mem_append_right _ he⟩ (Z.Yd.load rfl Try.isAgg3 (fun _ => Z.cellXf hx2.sx lg_len hkl rfl)) ?_
                                  refine Z.t 5 rfl rfl rfl (by rfl) (by kernel_rfl) ⟨_, hs, by first | (simp; done) | exact fun e he => List.mem_append_right _ he⟩ (Z.Yd.fieldA (m := 0) rfl (by kernel_rfl)) ?_
                                  refine Z.t 6 rfl rfl rfl (by rfl) (by kernel_rfl) ⟨_, hs, by first | (simp; done) | exact fun e he => List.mem_append_right _ he⟩ (by first | exact Z.Yd.load rfl Try.isAgg3 (fun _ => Z.cellB (by first | ((repeat (first | exact List.mem_cons_self | refine List.mem_cons_of_mem _ ?_ | refine List.mem_append_right _ ?_)); done) | fail) rfl) | exact Z.Yd.load rfl Try.isAgg3 (fun _ => Z.cellO (by assumption) (by simp) (by assumption)) | fail "load 12.6") ?_
                                  refine Z.tb [7] (by kernel_rfl) rfl ⟨_, hs, by first | (simp; done) | exact fun e he => List.mem_append_right _ he⟩ rfl ?_
                                  refine Z.td (by rfl) (by kernel_rfl) ?_
                                  refine Z.only [0, 3, 4, 5, 84] rfl ?_
                                  refine Z.nthen ?_
                                  refine Z.cond rfl (fun hc12 => ?_) (fun hc12 => ?_)
                                  · first
                                      | (exfalso; simp at hc12 <;> omega)
                                      | (
                                        (try simp at hc12)
                                        have hno : ¬ okSet l := fun h => by
                                          have h4 := hid.1 (h.2.2.sublist (List.take_sublist _ _)) k (by omega)
                                          simp at h4
                                          contradiction
                                        refine Z.seq ?_
                                        refine Z.region ?_
                                        refine Z.lb 1 rfl ?_
                                        refine Z.lnil ?_
                                        refine Z.only [2] rfl ?_
                                        refine Z.nthen ?_
                                        refine Z.ret ?_
                                        repeat (first | refine Z.rthen ?_ | refine Z.rblock ?_ | refine Z.rscope ?_)
                                        -- ret#6
                                        refine Z.out1 (by exact ⟨rfl, trivial⟩) ?_
                                        first
                                        | exact ⟨_, rfl, by rw [decide_eq_false hno], hs.sub (List.nil_sublist _)⟩
                                        | (rw [List.take_of_length_le (by omega)] at h1 h2
                                           exact ⟨_, rfl, by rw [decide_eq_true (show okSet l from ⟨by omega, h1, h2⟩)], hs⟩)
                                        )
                                  · first
                                      | (exfalso; simp at hc12 <;> omega)
                                      | (
                                        (try simp at hc12)
                                        have hne : ¬ l[k]!.id = xi.id := by simpa using hc12
                                        refine Z.skip ?_
                                        refine Z.nblock ?_
                                        refine Z.nthen ?_
                                        refine Z.region ?_
                                        refine Z.lb 1 rfl ?_
                                        refine Z.l rfl rfl (by rfl) (Z.keepS hs) (Z.Yd.add rfl rfl (fun hG => Z.wi64 (by first | omega | (have hG' := Z.gh rfl hG; simp at hG'; omega)))) ?_
                                        refine Z.lb 1 rfl ?_
                                        refine Z.lnil ?_
                                        refine Z.only [0, 3, 4, 5] rfl ?_
                                        refine Z.nthen ?_
                                        refine Z.again (k + 1) (by refine ⟨?_, ?_, ?_, ?_, trivial⟩ <;> (first | rfl | (refine Z.lookv rfl ?_; simp; done) | (refine Z.lookv rfl ?_; simp; omega))) ⟨⟨by omega, fun j hj => ?_⟩, hs⟩ (by omega)
                                        rcases h3k j hj with h | rfl
                                        · exact h3 j h
                                        · exact hne
                                        )
                                  )
                            · first
                                | (exfalso; simp at hc10 <;> omega)
                                | (
                                  (try simp at hc10)
                                  refine Z.exit ?_
                                  refine Z.xthen ?_
                                  refine Z.xthen ?_
                                  refine Z.xblock ?_
                                  refine Z.nblock ?_
                                  refine Z.nthen ?_
                                  refine Z.region ?_
                                  refine Z.lb 1 rfl ?_
                                  refine Z.l rfl rfl (by rfl) (Z.keepS hs) (Z.Yd.add rfl rfl (fun hG => Z.wi64 (by first | omega | (have hG' := Z.gh rfl hG; simp at hG'; omega)))) ?_
                                  refine Z.lb 1 rfl ?_
                                  refine Z.lnil ?_
                                  refine Z.only [0, 3] rfl ?_
                                  refine Z.nthen ?_
                                  refine Z.again (i + 1) (by refine ⟨?_, ?_, trivial⟩ <;> (first | rfl | (refine Z.lookv rfl ?_; simp; done) | (refine Z.lookv rfl ?_; simp; omega))) ⟨⟨by omega, ?_, hid.2 fun j hj => h3 j (by omega)⟩, hs.sub (List.nil_sublist _)⟩ (by omega)
                                  intro x hx
                                  rw [htk] at hx
                                  rcases List.mem_append.1 hx with hx | hx
                                  · exact h1 x hx
                                  · obtain rfl : x = xi := by simpa using hx
                                    exact hok
                                  )
                            )
                    )
              · first
                  | (exfalso; simp at hc4 <;> omega)
                  | (
                    (try simp at hc4)
                    refine Z.exit ?_
                    refine Z.xthen ?_
                    refine Z.xthen ?_
                    refine Z.xblock ?_
                    refine Z.nthen ?_
                    refine Z.seq ?_
                    refine Z.region ?_
                    refine Z.lb 1 rfl ?_
                    refine Z.lnil ?_
                    refine Z.only [2] rfl ?_
                    refine Z.nthen ?_
                    refine Z.ret ?_
                    -- ret#7
                    refine Z.out1 (by exact ⟨rfl, trivial⟩) ?_
                    first
                    | exact ⟨_, rfl, by rw [decide_eq_false hno], hs.sub (List.nil_sublist _)⟩
                    | (rw [List.take_of_length_le (by omega)] at h1 h2
                       exact ⟨_, rfl, by rw [decide_eq_true (show okSet l from ⟨by omega, h1, h2⟩)], hs⟩)
                    )
              )
        )
end Go.Proofs.Ythdhobnkclddhaa

/- Buckets: the document's Tick, Divide, Level, Same. -/
namespace Go.Proofs.Ythdhobnkclddhaa
open Go.RowKit
set_option linter.unusedSimpArgs false
set_option linter.unusedVariables false
--newlaws

end Go.Proofs.Ythdhobnkclddhaa

/- Buckets: the law's own functions, and the examples of the chapter. -/
namespace Go.Proofs.Ythdhobnkclddhaa
open Go.RowKit
set_option linter.unusedSimpArgs false
set_option linter.unusedVariables false
--newlaws

theorem bk_num (e : Int) (w : World) : Calls Try.prog 15 #[.int .i64 e] w (SX.Ret fun v w' => v = .int .i64 e ∧ SX.St w [] w' []) := by
  have hs := SX.St.start w
  refine Z.enter Try.func15 rfl Try.ntmps15 rfl rfl ?_
  refine Z.seq ?_
  refine Z.region ?_
  refine Z.lb 1 rfl ?_
  refine Z.lnil ?_
  refine Z.only [0] rfl ?_
  refine Z.nthen ?_
  refine Z.seq ?_
  refine Z.region ?_
  refine Z.lb 2 rfl ?_
  refine Z.lnil ?_
  refine Z.only [2] rfl ?_
  refine Z.nthen ?_
  refine Z.ret ?_
  -- ret#0
  refine Z.out1 (by exact ⟨rfl, trivial⟩) ?_
  first | exact ⟨_, rfl, rfl, hs⟩ | exact ⟨_, rfl, rfl, hs.sub (List.nil_sublist _)⟩
theorem bk_lev (g : Nat) (m : BkV) (id n : Int) (has : Bool) (w : World) (hr : BkR w g m) (hm : m.ok) : Calls Try.prog 24 #[.pointer (some ⟨g, 0, none⟩), .int .i64 id, .int .i64 n, .bool has] w (SX.Ret fun v w' => v = .bool (decide (lvV m id = (n, has))) ∧ SX.St w [] w' []) := by
  have hs := SX.St.start w
  refine Z.enter Try.func24 rfl Try.ntmps24 rfl rfl ?_
  refine Z.seq ?_
  refine Z.region ?_
  refine Z.lb 1 rfl ?_
  refine Z.lnil ?_
  refine Z.only [0, 1, 2, 3] rfl ?_
  refine Z.nthen ?_
  refine Z.seq ?_
  refine Z.region ?_
  refine Z.lb 2 rfl ?_
  refine Z.le rfl trivial ?_
  refine Z.ZO.call rfl rfl (by rfl) rfl rfl Try.call17 rfl (bk_level g m id _ hr hm) ?_
  rintro v1_2 w1_2 ⟨rfl, hy⟩
  replace hs := hs.call hy
  clear hy
  try simp only [List.cons_append, List.nil_append, List.append_nil] at hs
  refine Z.lb 5 rfl ?_
  refine Z.lnil ?_
  refine Z.only [2, 3, 9, 10] rfl ?_
  refine Z.nthen ?_
  refine Z.seq ?_
  refine Z.region ?_
  refine Z.lb 6 rfl ?_
  refine Z.l rfl rfl (by rfl) (Z.keepS hs) (Z.Yd.bin rfl rfl (by intro _ w; go_simp; try rfl)) ?_
  refine Z.lb 2 rfl ?_
  refine Z.lnil ?_
  refine Z.only [8] rfl ?_
  refine Z.nthen ?_
  refine Z.ret ?_
  -- ret#0
  refine Z.out1 (by exact ⟨rfl, trivial⟩) ?_
  refine ⟨_, rfl, ?_, hs⟩
  congr 1
  rw [Bool.eq_iff_iff]
  simp [Prod.ext_iff]
theorem bk_sameI (A B : Option Addr) (n c k d : Nat) (xs ys : List Int) (w : World) (hA : Sl w A (ints .i64 xs)) (hB : Sl w B (ints .i64 ys)) (hl : xs.length = n) (hk : ys.length = k) (hn : n ≤ 1000) :
    Calls Try.prog 26 #[.slice A n c, .slice B k d] w (SX.Ret fun v w' => v = .bool (decide (xs = ys)) ∧ SX.St w [] w' []) := by
  have hs := SX.St.start w
  refine Z.enter Try.func26 rfl Try.ntmps26 rfl rfl ?_
  refine Z.seq ?_
  refine Z.region ?_
  refine Z.lb 1 rfl ?_
  refine Z.lnil ?_
  refine Z.only [0, 1] rfl ?_
  refine Z.nthen ?_
  refine Z.seq ?_
  refine Z.seq ?_
  refine Z.region ?_
  refine Z.lb 1 rfl ?_
  refine Z.l rfl rfl (by rfl) (Z.keepS hs) (Z.Yd.lenS rfl Try.underlying28) ?_
  refine Z.lb 1 rfl ?_
  refine Z.l rfl rfl (by rfl) (Z.keepS hs) (Z.Yd.lenS rfl Try.underlying28) ?_
  refine Z.lb 1 rfl ?_
  refine Z.lnil ?_
  refine Z.only [0, 1, 10] rfl ?_
  refine Z.nthen ?_
  refine Z.cond rfl (fun hc1 => ?_) (fun hc1 => ?_)
  · first
      | (exfalso; simp at hc1 <;> omega)
      | (
        (try simp at hc1)
        have hne : ¬ xs = ys := fun h => by subst h; omega
        refine Z.seq ?_
        refine Z.region ?_
        refine Z.lb 1 rfl ?_
        refine Z.lnil ?_
        refine Z.only [4] rfl ?_
        refine Z.nthen ?_
        refine Z.ret ?_
        repeat (first | refine Z.rthen ?_ | refine Z.rblock ?_ | refine Z.rscope ?_)
        -- ret#0
        refine Z.out1 (by exact ⟨rfl, trivial⟩) ?_
        first
        | exact ⟨_, rfl, by rw [decide_eq_false hne], hs⟩
        | (rw [List.take_of_length_le (by omega), List.take_of_length_le (by omega)] at ht
           exact ⟨_, rfl, by rw [decide_eq_true ht], hs⟩)
        )
  · first
      | (exfalso; simp at hc1 <;> omega)
      | (
        (try simp at hc1)
        have hnk : n = k := by omega
        refine Z.skip ?_
        refine Z.nthen ?_
        refine Z.seq ?_
        refine Z.seq ?_
        refine Z.region ?_
        refine Z.lb 1 rfl ?_
        refine Z.lnil ?_
        refine Z.only [0, 1, 5] rfl ?_
        refine Z.nthen ?_
        refine Z.block ?_
        refine Z.loopk (ι := Nat) [0, 1] rfl (fun i => [(5, [], .int .i64 (i : Int))]) (fun i wr => (i ≤ n ∧ xs.take i = ys.take i) ∧ SX.St w [] wr []) (fun i => n - i) 0 (by refine ⟨?_, trivial⟩ <;> (first | rfl | (refine Z.lookv rfl ?_; simp; done) | (refine Z.lookv rfl ?_; simp; omega))) ⟨⟨by omega, rfl⟩, hs⟩ ?_
        clear hs
        rintro i w4 ⟨⟨hi, ht⟩, hs⟩
        refine Z.only [0, 1, 5] rfl ?_
        refine Z.seq ?_
        refine Z.seq ?_
        refine Z.region ?_
        refine Z.lb 2 rfl ?_
        refine Z.l rfl rfl (by rfl) (Z.keepS hs) (Z.Yd.lenS rfl Try.underlying28) ?_
        refine Z.lb 1 rfl ?_
        refine Z.lnil ?_
        refine Z.only [0, 1, 5, 14] rfl ?_
        refine Z.nthen ?_
        refine Z.cond rfl (fun hc4 => ?_) (fun hc4 => ?_)
        · first
            | (exfalso; simp at hc4 <;> omega)
            | (
              (try simp at hc4)
              have hxi : xs[i]? = some (elt xs (i : Int)) := by rw [elt_get (by omega)]; exact List.getElem?_eq_getElem (by omega)
              have hyi : ys[i]? = some (elt ys (i : Int)) := by rw [elt_get (by omega)]; exact List.getElem?_eq_getElem (by omega)
              obtain ⟨b, off, rfl, hb1, hx2⟩ := Z.Sl.some hA (by rw [ints_length]; omega)
              obtain ⟨b', off', rfl, hb2, hy2⟩ := Z.Sl.some hB (by rw [ints_length]; omega)
              refine Z.skip ?_
              refine Z.nthen ?_
              refine Z.seq ?_
              refine Z.block ?_
              refine Z.seq ?_
              refine Z.drawK (fun _ => true) mixed hs ?_
              clear hs; intro wd6 hs
              refine Z.tb [0, 1] (by kernel_rfl) rfl ⟨_, hs, by first | (simp; done) | exact fun e he => List.mem_append_right _ he⟩ rfl ?_
              refine Z.t 2 rfl rfl rfl (by rfl) (by kernel_rfl) ⟨_, hs, by first | (simp; done) | exact fun e he => List.mem_append_right _ he⟩ (Z.Yd.elem rfl rfl Try.underlying28 Try.sizeOf3 (fun hG => ⟨(by first | omega | (have hG' := Z.gh rfl hG; simp at hG'; omega)), (by first | omega | (have hG' := Z.gh rfl hG; simp at hG'; omega))⟩)) ?_
              refine Z.t 3 rfl rfl rfl (by rfl) (by kernel_rfl) ⟨_, hs, by first | (simp; done) | exact fun e he => List.mem_append_right _ he⟩ (Z.Yd.load rfl Try.isAgg3 (fun _ => Z.cellS hx2 rfl (by omega) (by omega))) ?_
              refine Z.tb [4, 5] (by kernel_rfl) rfl ⟨_, hs, by first | (simp; done) | exact fun e he => List.mem_append_right _ he⟩ rfl ?_
              refine Z.t 6 rfl rfl rfl (by rfl) (by kernel_rfl) ⟨_, hs, by first | (simp; done) | exact fun e he => List.mem_append_right _ he⟩ (Z.Yd.elem rfl rfl Try.underlying28 Try.sizeOf3 (fun hG => ⟨(by first | omega | (have hG' := Z.gh rfl hG; simp at hG'; omega)), (by first | omega | (have hG' := Z.gh rfl hG; simp at hG'; omega))⟩)) ?_
              refine Z.t 7 rfl rfl rfl (by rfl) (by kernel_rfl) ⟨_, hs, by first | (simp; done) | exact fun e he => List.mem_append_right _ he⟩ (Z.Yd.load rfl Try.isAgg3 (fun _ => Z.cellS hy2 rfl (by omega) (by omega))) ?_
              refine Z.tb [8] (by kernel_rfl) rfl ⟨_, hs, by first | (simp; done) | exact fun e he => List.mem_append_right _ he⟩ rfl ?_
              refine Z.td (by rfl) (by kernel_rfl) ?_
              refine Z.only [0, 1, 5, 25] rfl ?_
              refine Z.nthen ?_
              refine Z.cond rfl (fun hc6 => ?_) (fun hc6 => ?_)
              · first
                  | (exfalso; simp at hc6 <;> omega)
                  | (
                    (try simp at hc6)
                    have hne : ¬ xs = ys := fun h => by
                      rw [h] at hc6
                      simp at hc6
                    refine Z.seq ?_
                    refine Z.region ?_
                    refine Z.lb 1 rfl ?_
                    refine Z.lnil ?_
                    refine Z.only [4] rfl ?_
                    refine Z.nthen ?_
                    refine Z.ret ?_
                    repeat (first | refine Z.rthen ?_ | refine Z.rblock ?_ | refine Z.rscope ?_)
                    -- ret#1
                    refine Z.out1 (by exact ⟨rfl, trivial⟩) ?_
                    first
                    | exact ⟨_, rfl, by rw [decide_eq_false hne], hs⟩
                    | (rw [List.take_of_length_le (by omega), List.take_of_length_le (by omega)] at ht
                       exact ⟨_, rfl, by rw [decide_eq_true ht], hs⟩)
                    )
              · first
                  | (exfalso; simp at hc6 <;> omega)
                  | (
                    (try simp at hc6)
                    refine Z.skip ?_
                    refine Z.nblock ?_
                    refine Z.nthen ?_
                    refine Z.region ?_
                    refine Z.lb 1 rfl ?_
                    refine Z.l rfl rfl (by rfl) (Z.keepS hs) (Z.Yd.add rfl rfl (fun hG => Z.wi64 (by first | omega | (have hG' := Z.gh rfl hG; simp at hG'; omega)))) ?_
                    refine Z.lb 1 rfl ?_
                    refine Z.lnil ?_
                    refine Z.only [0, 1, 5] rfl ?_
                    refine Z.nthen ?_
                    refine Z.again (i + 1) (by refine ⟨?_, ?_, ?_, trivial⟩ <;> (first | rfl | (refine Z.lookv rfl ?_; simp; done) | (refine Z.lookv rfl ?_; simp; omega))) ⟨⟨by omega, ?_⟩, hs⟩ (by omega)
                    rw [List.take_add_one, List.take_add_one, hxi, hyi, ht]
                    simp_all
                    )
              )
        · first
            | (exfalso; simp at hc4 <;> omega)
            | (
              (try simp at hc4)
              refine Z.exit ?_
              refine Z.xthen ?_
              refine Z.xthen ?_
              refine Z.xblock ?_
              refine Z.nthen ?_
              refine Z.seq ?_
              refine Z.region ?_
              refine Z.lb 1 rfl ?_
              refine Z.lnil ?_
              refine Z.only [4] rfl ?_
              refine Z.nthen ?_
              refine Z.ret ?_
              -- ret#2
              refine Z.out1 (by exact ⟨rfl, trivial⟩) ?_
              first
              | exact ⟨_, rfl, by rw [decide_eq_false hne], hs⟩
              | (rw [List.take_of_length_le (by omega), List.take_of_length_le (by omega)] at ht
                 exact ⟨_, rfl, by rw [decide_eq_true ht], hs⟩)
              )
        )
/-- a call of the law's, and whether it reads -/
structure AcV where
  w : Int
  n : Int
  D : Option Addr
  c : Nat
  d : List Int
def AcV.cells (x : AcV) : List Value := [.int .i64 x.w, .int .i64 x.n, .slice x.D x.d.length x.c]
def fewL (l : List AcV) (most : Nat) : Prop := l.length ≤ most ∧ ∀ x ∈ l, x.d.length ≤ 12
instance (l : List AcV) (most : Nat) : Decidable (fewL l most) := by unfold fewL; infer_instance
end Go.Proofs.Ythdhobnkclddhaa

/- Buckets: the examples of the chapter. -/
namespace Go.Proofs.Ythdhobnkclddhaa
open Go.RowKit
set_option linter.unusedSimpArgs false
set_option linter.unusedVariables false
--newlaws

def ka : LgV := ⟨1, 2, 10, 100, 0⟩
def kb : LgV := ⟨2, 1, 5, 20, 0⟩
def kw (p q t : Int) : BkV := ⟨[ka, kb], [p, q], t⟩
theorem kw_ok {p q t : Int} (h1 : 0 ≤ p ∧ p ≤ 100) (h2 : 0 ≤ q ∧ q ≤ 20) (h3 : 0 ≤ t ∧ t < 1073741824) : (kw p q t).ok := by
  refine ⟨show okSet [ka, kb] by decide, rfl, fun i hi => ?_, h3⟩
  have : i = 0 ∨ i = 1 := by
    have : i < 2 := hi
    omega
  rcases this with rfl | rfl
  · exact h1
  · exact h2
theorem ktick : tickV (kw 0 0 0) 4 = (kw 40 20 4, 0) := by decide
theorem kdiv1 : divV (kw 40 20 4) 50 [100, 100] = (kw 10 0 4, [30, 20], 0) := by decide
theorem kdiv2 : divV (kw 10 0 4) 50 [100, 100] = (kw 0 0 4, [10, 40], 0) := by decide
theorem ktick2 : tickV (kw 0 0 4) 3 = (kw 0 0 4, 2) := by decide
theorem kdiv3 : divV (kw 0 0 4) 1 [0] = (kw 0 0 4, [], 2) := by decide
theorem wk25_new (A : Option Addr) (n c : Nat) (ls : List LgV) (w : World) (hx : Sl w A (ls.flatMap LgV.cells)) (hl : ls.length = n) (hn : n ≤ 1000) (hc : n ≤ c) (h : okSet ls) :
    Calls Try.prog 9 #[.slice A n c] w (SX.Ret fun v w' => ∃ g sv so, v = .tuple #[.pointer (some ⟨g, 0, none⟩), .int .i64 0] ∧ SX.St w [] w' (bkE g sv so (newB ls))) := by
  have := bk_new A n c ls w hx hl hn hc
  simp only [if_pos h] at this
  exact this
theorem wk25_bad (A : Option Addr) (n c : Nat) (ls : List LgV) (w : World) (hx : Sl w A (ls.flatMap LgV.cells)) (hl : ls.length = n) (hn : n ≤ 1000) (hc : n ≤ c) (h : ¬ okSet ls) :
    Calls Try.prog 9 #[.slice A n c] w (SX.Ret fun v w' => v = .tuple #[.pointer none, .int .i64 2] ∧ SX.St w [] w' []) := by
  have := bk_new A n c ls w hx hl hn hc
  simp only [if_neg h] at this
  exact this
theorem wk25_tick (g : Nat) (sv so : Value) (m : BkV) (t : Int) (r : BkV × Int) (w : World) (hs : SX.St w (SX.idsOf (bkE g sv so m)) w (bkE g sv so m)) (hm : m.ok) (he : tickV m t = r) :
    Calls Try.prog 14 #[.pointer (some ⟨g, 0, none⟩), .int .i64 t] w (SX.Ret fun v w' => v = .int .i64 r.2 ∧ SX.St w (SX.idsOf (bkE g sv so m)) w' (bkE g sv so r.1)) := by
  subst he
  exact bk_tick g sv so m t w hs hm
theorem wk25_div (g : Nat) (sv so : Value) (m : BkV) (size : Int) (A : Option Addr) (nd cd : Nat) (dem : List Int) (r : BkV × List Int × Int) (w : World) (hs : SX.St w (SX.idsOf (bkE g sv so m)) w (bkE g sv so m)) (hm : m.ok)
    (hd : Sx w (SX.idsOf (bkE g sv so m)) A (ints .i64 dem)) (hdl : dem.length = nd) (he : divV m size dem = r) :
    Calls Try.prog 18 #[.pointer (some ⟨g, 0, none⟩), .int .i64 size, .slice A nd cd] w (SX.Ret fun v w' => ∃ oa oc, v = .tuple #[.slice oa r.2.1.length oc, .int .i64 r.2.2] ∧ SX.St w (SX.idsOf (bkE g sv so m)) w' (SX.Ent.row (.slice oa r.2.1.length oc) 3 1 r.2.1.length (ints .i64 r.2.1) :: bkE g sv so r.1)) := by
  subst he
  refine (bk_divide g sv so m size A nd cd dem w hs hm hd hdl).mono ?_
  rintro e w' ⟨v, h1, ov, rfl, h3⟩
  obtain ⟨oa, oc, rfl, -, -, -⟩ := SX.row_slv h3 (j := 0) rfl
  exact ⟨_, h1, oa, oc, rfl, h3⟩
theorem wk25_lev (g : Nat) (m : BkV) (id n : Int) (has : Bool) (w : World) (hr : BkR w g m) (hm : m.ok) (he : lvV m id = (n, has)) : Calls Try.prog 24 #[.pointer (some ⟨g, 0, none⟩), .int .i64 id, .int .i64 n, .bool has] w (SX.Ret fun v w' => v = .bool true ∧ SX.St w [] w' []) := by
  have := bk_lev g m id n has w hr hm
  rw [decide_eq_true he] at this
  exact this
theorem bkE_sub {g : Nat} {sv so : Value} {m : BkV} {L : List SX.Ent} : ∀ e ∈ bkE g sv so m, e ∈ bkE g sv so m ++ L := fun e h => List.mem_append_left _ h
/-- a block of ours reads asz a slice beside what is lent -/
theorem blk_lent {w0 w : World} {M : List Nat} {L1 L2 : List SX.Ent} {g T : Nat} {cs : Array Value} (hs : SX.St w0 M w (L1 ++ L2)) (hm : SX.Ent.blk g T cs ∈ L2) : Sx w (SX.idsOf L1) (some ⟨g, 0, none⟩) cs.toList := fun hp => by
  have hb : w.heap[g]? = some (.cells cs T (0, 0)) := hs.ok _ (List.mem_append_right _ hm)
  refine ⟨g, 0, rfl, SX.lt_of_some hb, fun hin => ?_, fun i u hu => ?_⟩
  · have hn := hs.nodup
    simp only [SX.idsOf, List.flatMap_append] at hn
    exact (List.nodup_append.1 hn).2.2 g hin g (List.mem_flatMap.2 ⟨_, hm, by simp [SX.Ent.blk, SX.Ent.obj]⟩) rfl
  · rw [SX.cell_blk hb]
    simpa using hu
set_option maxHeartbeats 1000000 in
set_option maxRecDepth 100000 in
theorem works25 (w : World) : Calls Try.prog 8 #[] w (SX.Ret fun v w' => v = .bool true ∧ SX.St w [] w' []) := by
  have hs := SX.St.start w
  have o0 : (kw 0 0 0).ok := kw_ok (by omega) (by omega) (by omega)
  have o1 : (kw 40 20 4).ok := kw_ok (by omega) (by omega) (by omega)
  have o2 : (kw 10 0 4).ok := kw_ok (by omega) (by omega) (by omega)
  have o3 : (kw 0 0 4).ok := kw_ok (by omega) (by omega) (by omega)
  refine Z.enter Try.func8 rfl Try.ntmps8 rfl rfl ?_
  refine Z.seq ?_
  refine Z.region ?_
  refine Z.lb 1 rfl ?_
  refine Z.lnil ?_
  refine Z.only [] rfl ?_
  refine Z.nthen ?_
  refine Z.seq ?_
  refine Z.region ?_
  refine Z.l rfl rfl (by rfl) (Z.keepS hs) (Z.Yd.buildL [(0, 1), (1, 1), (2, 1), (3, 1), (4, 1)] [.int .i64 0, .int .i64 0, .int .i64 0, .int .i64 0, .int .i64 0] rfl rfl (by intro w; kernel_rfl)) ?_
  refine Z.l rfl rfl (by rfl) (Z.keepS hs) (Z.Yd.buildL [(0, 1), (1, 1), (2, 1), (3, 1), (4, 1)] [.int .i64 0, .int .i64 0, .int .i64 0, .int .i64 0, .int .i64 0] rfl rfl (by intro w; kernel_rfl)) ?_
  refine Z.le rfl trivial ?_
  refine Z.ZO.alloc rfl rfl (by rfl) Try.zeroValue38 rfl hs ?_
  clear hs; intro g1 w1 hs
  refine Z.le rfl trivial ?_
  refine Z.ZO.alloc rfl rfl (by rfl) Try.zeroValue38 rfl hs ?_
  clear hs; intro g2 w2 hs
  refine Z.le rfl trivial ?_
  first | refine Z.ZO.storeA rfl rfl hs rfl rfl (by kernel_rfl) (by first | (simp [Value.oneCell']; done) | (refine Z.all_one ?_; assumption)) (by first | exact SX.at0 | exact SX.at1 | exact SX.at2 | exact SX.at3 | exact SX.at4 | exact SX.at5 | exact Z.at6 | exact Z.at7 | exact Z.at8 | exact Z.at9 | exact Z.at10 | exact Z.at11 | exact Z.at12) (by rfl) ?_ | refine Z.ZO.storeP rfl rfl hs rfl rfl (by kernel_rfl) (by first | (simp [Value.oneCell']; done) | (refine Z.all_one ?_; assumption)) (by first | exact SX.at0 | exact SX.at1 | exact SX.at2 | exact SX.at3 | exact SX.at4 | exact SX.at5 | exact Z.at6 | exact Z.at7 | exact Z.at8 | exact Z.at9 | exact Z.at10 | exact Z.at11 | exact Z.at12) (by first | decide | (simp; done) | (simp; omega)) ?_ | refine Z.ZO.storePR rfl rfl hs rfl rfl (by kernel_rfl) (by first | (simp [Value.oneCell']; done) | (refine Z.all_one ?_; assumption)) (by first | exact SX.at0 | exact SX.at1 | exact SX.at2 | exact SX.at3 | exact SX.at4 | exact SX.at5 | exact Z.at6 | exact Z.at7 | exact Z.at8 | exact Z.at9 | exact Z.at10 | exact Z.at11 | exact Z.at12) (by first | decide | (simp; done) | (simp; omega)) ?_
  clear hs; intro ws hs
  simp only [Nat.zero_add, Nat.add_zero, Nat.reduceAdd, Int.reduceToNat, Nat.reduceMul, List.set_cons_zero, List.set_cons_succ, List.setIfInBounds_toArray] at hs
  try simp only [Z.putL, Nat.zero_add] at hs
  refine Z.le rfl trivial ?_
  first | refine Z.ZO.storeA rfl rfl hs rfl rfl (by kernel_rfl) (by first | (simp [Value.oneCell']; done) | (refine Z.all_one ?_; assumption)) (by first | exact SX.at0 | exact SX.at1 | exact SX.at2 | exact SX.at3 | exact SX.at4 | exact SX.at5 | exact Z.at6 | exact Z.at7 | exact Z.at8 | exact Z.at9 | exact Z.at10 | exact Z.at11 | exact Z.at12) (by rfl) ?_ | refine Z.ZO.storeP rfl rfl hs rfl rfl (by kernel_rfl) (by first | (simp [Value.oneCell']; done) | (refine Z.all_one ?_; assumption)) (by first | exact SX.at0 | exact SX.at1 | exact SX.at2 | exact SX.at3 | exact SX.at4 | exact SX.at5 | exact Z.at6 | exact Z.at7 | exact Z.at8 | exact Z.at9 | exact Z.at10 | exact Z.at11 | exact Z.at12) (by first | decide | (simp; done) | (simp; omega)) ?_ | refine Z.ZO.storePR rfl rfl hs rfl rfl (by kernel_rfl) (by first | (simp [Value.oneCell']; done) | (refine Z.all_one ?_; assumption)) (by first | exact SX.at0 | exact SX.at1 | exact SX.at2 | exact SX.at3 | exact SX.at4 | exact SX.at5 | exact Z.at6 | exact Z.at7 | exact Z.at8 | exact Z.at9 | exact Z.at10 | exact Z.at11 | exact Z.at12) (by first | decide | (simp; done) | (simp; omega)) ?_
  clear hs; intro ws hs
  simp only [Nat.zero_add, Nat.add_zero, Nat.reduceAdd, Int.reduceToNat, Nat.reduceMul, List.set_cons_zero, List.set_cons_succ, List.setIfInBounds_toArray] at hs
  try simp only [Z.putL, Nat.zero_add] at hs
  refine Z.lnil ?_
  refine Z.only [1, 2] rfl ?_
  refine Z.nthen ?_
  refine Z.seq ?_
  refine Z.region ?_
  refine Z.l rfl rfl (by rfl) (Z.keepS hs) (by first | exact Z.Yd.loadA _ rfl Try.isAgg38 (fun _ => Z.cellsB (by first | ((repeat (first | exact List.mem_cons_self | refine List.mem_cons_of_mem _ ?_ | refine List.mem_append_right _ ?_)); done) | fail)) (by exact Try.sizeOf38) | fail "load 2.0") ?_
  refine Z.l rfl rfl (by rfl) (Z.keepS hs) (by first | exact Z.Yd.loadA _ rfl Try.isAgg38 (fun _ => Z.cellsB (by first | ((repeat (first | exact List.mem_cons_self | refine List.mem_cons_of_mem _ ?_ | refine List.mem_append_right _ ?_)); done) | fail)) (by exact Try.sizeOf38) | fail "load 2.1") ?_
  refine Z.le rfl trivial ?_
  refine Z.ZO.litL (T' := 38) [(0, 5), (5, 5)] [.int .i64 0, .int .i64 0, .int .i64 0, .int .i64 0, .int .i64 0, .int .i64 0, .int .i64 0, .int .i64 0, .int .i64 0, .int .i64 0] rfl rfl (by rfl) rfl rfl (by intro W; kernel_rfl) hs ?_
  clear hs; intro g22 w22 hs
  refine Z.le rfl trivial ?_
  refine Z.ZO.call rfl rfl (by rfl) rfl rfl Try.call9 rfl (wk25_new _ _ _ [ka, kb] _ (hs.blkSl (by first | ((repeat (first | exact List.mem_cons_self | refine List.mem_cons_of_mem _ ?_ | refine List.mem_append_right _ ?_)); done) | fail)) rfl (by decide) (by decide) (by decide)) ?_
  rintro v2_3 w2_3 ⟨g, sv, so, rfl, hy⟩
  replace hs := hs.call hy
  clear hy
  try simp only [List.cons_append, List.nil_append, List.append_nil] at hs
  replace hs : SX.St w [] _ (bkE g sv so (kw 0 0 0) ++ [SX.Ent.blk g2 38 kb.cells.toArray, SX.Ent.blk g1 38 ka.cells.toArray]) := hs.sel [0, 1, 2, 4, 5] (by decide)
  refine Z.lb 5 rfl ?_
  refine Z.lnil ?_
  refine Z.only [1, 3, 4] rfl ?_
  refine Z.nthen ?_
  refine Z.seq ?_
  refine Z.region ?_
  refine Z.lb 1 rfl ?_
  refine Z.le rfl trivial ?_
  refine Z.ZO.call rfl rfl (by rfl) rfl rfl Try.call14 rfl (wk25_tick g sv so (kw 0 0 0) 4 _ _ hs.lend o0 ktick) ?_
  rintro v3_1 w3_1 ⟨rfl, hz⟩
  replace hs := hs.regain hz
  refine Z.lb 1 rfl ?_
  refine Z.lnil ?_
  refine Z.only [1, 3, 4, 5] rfl ?_
  refine Z.nthen ?_
  refine Z.seq ?_
  refine Z.seq ?_
  refine Z.region ?_
  refine Z.lb 1 rfl ?_
  refine Z.le rfl trivial ?_
  refine Z.ZO.call rfl rfl (by rfl) rfl rfl Try.call15 rfl (bk_num _ _) ?_
  rintro v4_1 w4_1 ⟨rfl, hy⟩
  replace hs := hs.call hy
  clear hy
  try simp only [List.cons_append, List.nil_append, List.append_nil] at hs
  refine Z.lb 1 rfl ?_
  refine Z.le rfl trivial ?_
  refine Z.ZO.call rfl rfl (by rfl) rfl rfl Try.call15 rfl (bk_num _ _) ?_
  rintro v4_3 w4_3 ⟨rfl, hy⟩
  replace hs := hs.call hy
  clear hy
  try simp only [List.cons_append, List.nil_append, List.append_nil] at hs
  refine Z.l rfl rfl (by rfl) (Z.keepS hs) (Z.Yd.add rfl rfl (fun hG => Z.wi64 (by first | omega | (have hG' := Z.gh rfl hG; simp at hG'; omega)))) ?_
  refine Z.lb 2 rfl ?_
  refine Z.yes (s := 34) (b := false) rfl ((by simp)) rfl ?_
  refine Z.lb 1 rfl ?_
  refine Z.yes (s := 34) (b := false) rfl rfl rfl ?_
  refine Z.le rfl (by exact ⟨rfl, trivial⟩) ?_
  refine Z.ZO.call rfl rfl (by rfl) rfl rfl Try.call24 rfl (wk25_lev g (kw 40 20 4) 1 40 true _ (hs.bkR bkE_sub) o1 (by decide)) ?_
  rintro v4_8 w4_8 ⟨rfl, hy⟩
  replace hs := hs.call hy
  clear hy
  try simp only [List.cons_append, List.nil_append, List.append_nil] at hs
  refine Z.lb 1 rfl ?_
  refine Z.yes (s := 34) (b := false) rfl rfl rfl ?_
  refine Z.l rfl rfl (by rfl) (Z.keepS hs) (Z.Yd.pickF rfl rfl) ?_
  refine Z.lb 1 rfl ?_
  refine Z.yes (s := 39) (b := false) rfl ((by simp)) rfl ?_
  refine Z.lb 1 rfl ?_
  refine Z.yes (s := 39) (b := false) rfl rfl rfl ?_
  refine Z.le rfl (by exact ⟨rfl, trivial⟩) ?_
  refine Z.ZO.call rfl rfl (by rfl) rfl rfl Try.call24 rfl (wk25_lev g (kw 40 20 4) 2 20 true _ (hs.bkR bkE_sub) o1 (by decide)) ?_
  rintro v4_13 w4_13 ⟨rfl, hy⟩
  replace hs := hs.call hy
  clear hy
  try simp only [List.cons_append, List.nil_append, List.append_nil] at hs
  refine Z.lb 1 rfl ?_
  refine Z.yes (s := 39) (b := false) rfl rfl rfl ?_
  refine Z.l rfl rfl (by rfl) (Z.keepS hs) (Z.Yd.pickF rfl rfl) ?_
  refine Z.lb 1 rfl ?_
  refine Z.yes (s := 44) (b := false) rfl ((by simp)) rfl ?_
  refine Z.lb 1 rfl ?_
  refine Z.yes (s := 44) (b := false) rfl rfl rfl ?_
  refine Z.le rfl (by exact ⟨rfl, trivial⟩) ?_
  refine Z.ZO.call rfl rfl (by rfl) rfl rfl Try.call24 rfl (wk25_lev g (kw 40 20 4) 3 0 false _ (hs.bkR bkE_sub) o1 (by decide)) ?_
  rintro v4_18 w4_18 ⟨rfl, hy⟩
  replace hs := hs.call hy
  clear hy
  try simp only [List.cons_append, List.nil_append, List.append_nil] at hs
  refine Z.lb 1 rfl ?_
  refine Z.yes (s := 44) (b := false) rfl rfl rfl ?_
  refine Z.l rfl rfl (by rfl) (Z.keepS hs) (Z.Yd.pickF rfl rfl) ?_
  refine Z.lnil ?_
  refine Z.only [1, 3, 48] rfl ?_
  refine Z.nthen ?_
  refine Z.cond rfl (fun h => absurd h (by simp)) (fun hc4 => ?_)
  refine Z.skip ?_
  refine Z.nthen ?_
  refine Z.seq ?_
  refine Z.region ?_
  refine Z.lb 1 rfl ?_
  refine Z.le rfl trivial ?_
  refine Z.ZO.litL (T' := 3) [(0, 1), (1, 1)] [.int .i64 0, .int .i64 0] rfl rfl (by rfl) rfl rfl (by intro W; kernel_rfl) hs ?_
  clear hs; intro g51 w51 hs
  replace hs : SX.St w [] _ (bkE g sv so (kw 40 20 4) ++ [SX.Ent.blk g51 _ _, SX.Ent.blk g2 38 kb.cells.toArray, SX.Ent.blk g1 38 ka.cells.toArray]) := hs.sel [1, 2, 3, 0, 4, 5] (by decide)
  refine Z.le rfl trivial ?_
  refine Z.ZO.call rfl rfl (by rfl) rfl rfl Try.call18 rfl (wk25_div g sv so (kw 40 20 4) 50 _ _ _ [100, 100] _ _ hs.lend o1 (blk_lent hs List.mem_cons_self) rfl kdiv1) ?_
  rintro v6_2 w6_2 ⟨oa, oc, rfl, hz⟩
  replace hs := hs.regain hz
  refine Z.lb 5 rfl ?_
  refine Z.lnil ?_
  refine Z.only [1, 3, 6, 7] rfl ?_
  refine Z.nthen ?_
  refine Z.seq ?_
  refine Z.seq ?_
  refine Z.region ?_
  refine Z.lb 1 rfl ?_
  refine Z.le rfl trivial ?_
  refine Z.ZO.litL (T' := 3) [(0, 1), (1, 1)] [.int .i64 0, .int .i64 0] rfl rfl (by rfl) rfl rfl (by intro W; kernel_rfl) hs ?_
  clear hs; intro g56 w56 hs
  refine Z.le rfl trivial ?_
  refine Z.ZO.call rfl rfl (by rfl) rfl rfl Try.call26 rfl (bk_sameI oa _ _ oc _ _ [30, 20] [30, 20] _ (hs.slm (T := 3) (size := 1) (k := 2) (c := oc) (m := 2) (by simp)) (hs.blkSl (by first | ((repeat (first | exact List.mem_cons_self | refine List.mem_cons_of_mem _ ?_ | refine List.mem_append_right _ ?_)); done) | fail)) rfl rfl (by decide)) ?_
  rintro v7_2 w7_2 ⟨rfl, hy⟩
  replace hs := hs.call hy
  clear hy
  try simp only [List.cons_append, List.nil_append, List.append_nil] at hs
  refine Z.lb 2 rfl ?_
  refine Z.yes (s := 59) (b := false) rfl ((by simp)) rfl ?_
  refine Z.lb 1 rfl ?_
  refine Z.yes (s := 59) (b := false) rfl rfl rfl ?_
  refine Z.le rfl (by exact ⟨rfl, trivial⟩) ?_
  refine Z.ZO.call rfl rfl (by rfl) rfl rfl Try.call15 rfl (bk_num _ _) ?_
  rintro v7_6 w7_6 ⟨rfl, hy⟩
  replace hs := hs.call hy
  clear hy
  try simp only [List.cons_append, List.nil_append, List.append_nil] at hs
  refine Z.lb 1 rfl ?_
  refine Z.yes (s := 59) (b := false) rfl rfl rfl ?_
  refine Z.l rfl rfl (by rfl) (Z.keepS hs) (Z.Yd.pickF rfl rfl) ?_
  refine Z.lb 1 rfl ?_
  refine Z.yes (s := 64) (b := false) rfl ((by simp)) rfl ?_
  refine Z.lb 1 rfl ?_
  replace hs : SX.St w [] _ (bkE g sv so (kw 10 0 4) ++ [SX.Ent.blk g2 38 kb.cells.toArray, SX.Ent.blk g1 38 ka.cells.toArray]) := hs.sel [2, 3, 4, 6, 7] (by decide)
  refine Z.yes (s := 64) (b := false) rfl rfl rfl ?_
  refine Z.le rfl (by exact ⟨rfl, trivial⟩) ?_
  refine Z.ZO.call rfl rfl (by rfl) rfl rfl Try.call24 rfl (wk25_lev g (kw 10 0 4) 1 10 true _ (hs.bkR bkE_sub) o2 (by decide)) ?_
  rintro v7_11 w7_11 ⟨rfl, hy⟩
  replace hs := hs.call hy
  clear hy
  try simp only [List.cons_append, List.nil_append, List.append_nil] at hs
  refine Z.lb 1 rfl ?_
  refine Z.yes (s := 64) (b := false) rfl rfl rfl ?_
  refine Z.l rfl rfl (by rfl) (Z.keepS hs) (Z.Yd.pickF rfl rfl) ?_
  refine Z.lb 1 rfl ?_
  refine Z.yes (s := 69) (b := false) rfl ((by simp)) rfl ?_
  refine Z.lb 1 rfl ?_
  refine Z.yes (s := 69) (b := false) rfl rfl rfl ?_
  refine Z.le rfl (by exact ⟨rfl, trivial⟩) ?_
  refine Z.ZO.call rfl rfl (by rfl) rfl rfl Try.call24 rfl (wk25_lev g (kw 10 0 4) 2 0 true _ (hs.bkR bkE_sub) o2 (by decide)) ?_
  rintro v7_16 w7_16 ⟨rfl, hy⟩
  replace hs := hs.call hy
  clear hy
  try simp only [List.cons_append, List.nil_append, List.append_nil] at hs
  refine Z.lb 1 rfl ?_
  refine Z.yes (s := 69) (b := false) rfl rfl rfl ?_
  refine Z.l rfl rfl (by rfl) (Z.keepS hs) (Z.Yd.pickF rfl rfl) ?_
  refine Z.lnil ?_
  refine Z.only [1, 3, 73] rfl ?_
  refine Z.nthen ?_
  refine Z.cond rfl (fun h => absurd h (by simp)) (fun hc7 => ?_)
  refine Z.skip ?_
  refine Z.nthen ?_
  refine Z.seq ?_
  refine Z.region ?_
  refine Z.lb 1 rfl ?_
  refine Z.le rfl trivial ?_
  refine Z.ZO.litL (T' := 3) [(0, 1), (1, 1)] [.int .i64 0, .int .i64 0] rfl rfl (by rfl) rfl rfl (by intro W; kernel_rfl) hs ?_
  clear hs; intro g76 w76 hs
  replace hs : SX.St w [] _ (bkE g sv so (kw 10 0 4) ++ (SX.Ent.blk g76 _ _ :: [SX.Ent.blk g2 38 kb.cells.toArray, SX.Ent.blk g1 38 ka.cells.toArray])) := hs.sel [1, 2, 3, 0, 4, 5] (by decide)
  refine Z.le rfl trivial ?_
  refine Z.ZO.call rfl rfl (by rfl) rfl rfl Try.call18 rfl (wk25_div g sv so (kw 10 0 4) 50 _ _ _ [100, 100] _ _ hs.lend o2 (blk_lent hs List.mem_cons_self) rfl kdiv2) ?_
  rintro v9_2 w9_2 ⟨oa2, oc2, rfl, hz⟩
  replace hs := hs.regain hz
  replace hs : SX.St w [] _ (bkE g sv so (kw 0 0 4) ++ (SX.Ent.row _ _ _ _ _ :: [SX.Ent.blk g2 38 kb.cells.toArray, SX.Ent.blk g1 38 ka.cells.toArray])) := hs.sel [1, 2, 3, 0, 5, 6] (by decide)
  refine Z.lb 5 rfl ?_
  refine Z.lnil ?_
  refine Z.only [1, 3, 8, 9] rfl ?_
  refine Z.nthen ?_
  refine Z.seq ?_
  refine Z.region ?_
  refine Z.lb 1 rfl ?_
  refine Z.le rfl trivial ?_
  refine Z.ZO.call rfl rfl (by rfl) rfl rfl Try.call14 rfl (wk25_tick g sv so (kw 0 0 4) 3 _ _ hs.lend o3 ktick2) ?_
  rintro v10_1 w10_1 ⟨rfl, hz⟩
  replace hs := hs.regain hz
  refine Z.lb 1 rfl ?_
  refine Z.lnil ?_
  refine Z.only [1, 3, 8, 9, 10] rfl ?_
  refine Z.nthen ?_
  refine Z.seq ?_
  refine Z.region ?_
  refine Z.lb 1 rfl ?_
  refine Z.le rfl trivial ?_
  refine Z.ZO.litL (T' := 3) [(0, 1)] [.int .i64 0] rfl rfl (by rfl) rfl rfl (by intro W; kernel_rfl) hs ?_
  clear hs; intro g84 w84 hs
  replace hs : SX.St w [] _ (bkE g sv so (kw 0 0 4) ++ (SX.Ent.blk g84 _ _ :: SX.Ent.row _ _ _ _ _ :: [SX.Ent.blk g2 38 kb.cells.toArray, SX.Ent.blk g1 38 ka.cells.toArray])) := hs.sel [1, 2, 3, 0, 4, 5, 6] (by decide)
  refine Z.le rfl trivial ?_
  refine Z.ZO.call rfl rfl (by rfl) rfl rfl Try.call18 rfl (wk25_div g sv so (kw 0 0 4) 1 _ _ _ [0] _ _ hs.lend o3 (blk_lent hs List.mem_cons_self) rfl kdiv3) ?_
  rintro v11_2 w11_2 ⟨oa3, oc3, rfl, hz⟩
  replace hs := hs.regain hz
  replace hs : SX.St w [] _ (SX.Ent.row (.slice oa2 2 oc2) 3 1 2 (ints .i64 [10, 40]) :: [SX.Ent.blk g2 38 kb.cells.toArray, SX.Ent.blk g1 38 ka.cells.toArray]) := hs.sel [5, 6, 7] (by decide)
  refine Z.lb 5 rfl ?_
  refine Z.lnil ?_
  refine Z.only [1, 8, 9, 10, 12] rfl ?_
  refine Z.nthen ?_
  refine Z.seq ?_
  refine Z.region ?_
  refine Z.le rfl trivial ?_
  refine Z.ZO.call rfl rfl (by rfl) rfl rfl Try.call9 rfl (wk25_bad none 0 0 [] _ sl_nil rfl (by decide) (by decide) (by decide)) ?_
  rintro v12_0 w12_0 ⟨rfl, hy⟩
  replace hs := hs.call hy
  clear hy
  try simp only [List.cons_append, List.nil_append, List.append_nil] at hs
  refine Z.lb 5 rfl ?_
  refine Z.lnil ?_
  refine Z.only [1, 8, 9, 10, 12, 14] rfl ?_
  refine Z.nthen ?_
  refine Z.seq ?_
  refine Z.region ?_
  refine Z.l rfl rfl (by rfl) (Z.keepS hs) (by first | exact Z.Yd.loadA _ rfl Try.isAgg38 (fun _ => Z.cellsB (by first | ((repeat (first | exact List.mem_cons_self | refine List.mem_cons_of_mem _ ?_ | refine List.mem_append_right _ ?_)); done) | fail)) (by exact Try.sizeOf38) | fail "load 13.0") ?_
  refine Z.l rfl rfl (by rfl) (Z.keepS hs) (by first | exact Z.Yd.loadA _ rfl Try.isAgg38 (fun _ => Z.cellsB (by first | ((repeat (first | exact List.mem_cons_self | refine List.mem_cons_of_mem _ ?_ | refine List.mem_append_right _ ?_)); done) | fail)) (by exact Try.sizeOf38) | fail "load 13.1") ?_
  refine Z.le rfl trivial ?_
  refine Z.ZO.litL (T' := 38) [(0, 5), (5, 5)] [.int .i64 0, .int .i64 0, .int .i64 0, .int .i64 0, .int .i64 0, .int .i64 0, .int .i64 0, .int .i64 0, .int .i64 0, .int .i64 0] rfl rfl (by rfl) rfl rfl (by intro W; kernel_rfl) hs ?_
  clear hs; intro g95 w95 hs
  refine Z.le rfl trivial ?_
  refine Z.ZO.call rfl rfl (by rfl) rfl rfl Try.call9 rfl (wk25_bad _ _ _ [ka, ka] _ (hs.blkSl (by first | ((repeat (first | exact List.mem_cons_self | refine List.mem_cons_of_mem _ ?_ | refine List.mem_append_right _ ?_)); done) | fail)) rfl (by decide) (by decide) (by decide)) ?_
  rintro v13_3 w13_3 ⟨rfl, hy⟩
  replace hs := hs.call hy
  clear hy
  try simp only [List.cons_append, List.nil_append, List.append_nil] at hs
  refine Z.lb 5 rfl ?_
  refine Z.lnil ?_
  refine Z.only [8, 9, 10, 12, 14, 16] rfl ?_
  refine Z.nthen ?_
  refine Z.seq ?_
  refine Z.region ?_
  refine Z.lb 1 rfl ?_
  refine Z.le rfl trivial ?_
  refine Z.ZO.litL (T' := 3) [(0, 1), (1, 1)] [.int .i64 0, .int .i64 0] rfl rfl (by rfl) rfl rfl (by intro W; kernel_rfl) hs ?_
  clear hs; intro g100 w100 hs
  refine Z.le rfl trivial ?_
  refine Z.ZO.call rfl rfl (by rfl) rfl rfl Try.call26 rfl (bk_sameI oa2 _ _ oc2 _ _ [10, 40] [10, 40] _ (hs.slm (T := 3) (size := 1) (k := 2) (c := oc2) (m := 2) (by simp)) (hs.blkSl (by first | ((repeat (first | exact List.mem_cons_self | refine List.mem_cons_of_mem _ ?_ | refine List.mem_append_right _ ?_)); done) | fail)) rfl rfl (by decide)) ?_
  rintro v14_2 w14_2 ⟨rfl, hy⟩
  replace hs := hs.call hy
  clear hy
  try simp only [List.cons_append, List.nil_append, List.append_nil] at hs
  refine Z.lb 1 rfl ?_
  refine Z.yes (s := 102) (b := true) rfl ((by simp)) rfl ?_
  refine Z.lb 1 rfl ?_
  refine Z.yes (s := 102) (b := true) rfl rfl rfl ?_
  refine Z.le rfl (by exact ⟨rfl, trivial⟩) ?_
  refine Z.ZO.call rfl rfl (by rfl) rfl rfl Try.call15 rfl (bk_num _ _) ?_
  rintro v14_5 w14_5 ⟨rfl, hy⟩
  replace hs := hs.call hy
  clear hy
  try simp only [List.cons_append, List.nil_append, List.append_nil] at hs
  refine Z.lb 1 rfl ?_
  refine Z.yes (s := 102) (b := true) rfl rfl rfl ?_
  refine Z.l rfl rfl (by rfl) (Z.keepS hs) (Z.Yd.pickT rfl rfl) ?_
  refine Z.lb 1 rfl ?_
  refine Z.yes (s := 107) (b := true) rfl ((by simp)) rfl ?_
  refine Z.lb 1 rfl ?_
  refine Z.yes (s := 107) (b := true) rfl rfl rfl ?_
  refine Z.le rfl (by exact ⟨rfl, trivial⟩) ?_
  refine Z.ZO.call rfl rfl (by rfl) rfl rfl Try.call15 rfl (bk_num _ _) ?_
  rintro v14_10 w14_10 ⟨rfl, hy⟩
  replace hs := hs.call hy
  clear hy
  try simp only [List.cons_append, List.nil_append, List.append_nil] at hs
  refine Z.lb 1 rfl ?_
  refine Z.yes (s := 107) (b := true) rfl rfl rfl ?_
  refine Z.l rfl rfl (by rfl) (Z.keepS hs) (Z.Yd.pickT rfl rfl) ?_
  refine Z.lb 1 rfl ?_
  refine Z.yes (s := 112) (b := true) rfl ((by simp)) rfl ?_
  refine Z.lb 1 rfl ?_
  refine Z.yes (s := 112) (b := true) rfl rfl rfl ?_
  refine Z.le rfl (by exact ⟨rfl, trivial⟩) ?_
  refine Z.ZO.call rfl rfl (by rfl) rfl rfl Try.call15 rfl (bk_num _ _) ?_
  rintro v14_15 w14_15 ⟨rfl, hy⟩
  replace hs := hs.call hy
  clear hy
  try simp only [List.cons_append, List.nil_append, List.append_nil] at hs
  refine Z.lb 1 rfl ?_
  refine Z.yes (s := 112) (b := true) rfl rfl rfl ?_
  refine Z.l rfl rfl (by rfl) (Z.keepS hs) (Z.Yd.pickT rfl rfl) ?_
  refine Z.lb 1 rfl ?_
  refine Z.yes (s := 117) (b := true) rfl ((by simp)) rfl ?_
  refine Z.lb 1 rfl ?_
  refine Z.yes (s := 117) (b := true) rfl rfl rfl ?_
  refine Z.le rfl (by exact ⟨rfl, trivial⟩) ?_
  refine Z.ZO.call rfl rfl (by rfl) rfl rfl Try.call15 rfl (bk_num _ _) ?_
  rintro v14_20 w14_20 ⟨rfl, hy⟩
  replace hs := hs.call hy
  clear hy
  try simp only [List.cons_append, List.nil_append, List.append_nil] at hs
  refine Z.lb 1 rfl ?_
  refine Z.yes (s := 117) (b := true) rfl rfl rfl ?_
  refine Z.l rfl rfl (by rfl) (Z.keepS hs) (Z.Yd.pickT rfl rfl) ?_
  refine Z.lb 1 rfl ?_
  refine Z.yes (s := 122) (b := true) rfl ((by simp)) rfl ?_
  refine Z.lb 1 rfl ?_
  refine Z.yes (s := 122) (b := true) rfl rfl rfl ?_
  refine Z.le rfl (by exact ⟨rfl, trivial⟩) ?_
  refine Z.ZO.call rfl rfl (by rfl) rfl rfl Try.call15 rfl (bk_num _ _) ?_
  rintro v14_25 w14_25 ⟨rfl, hy⟩
  replace hs := hs.call hy
  clear hy
  try simp only [List.cons_append, List.nil_append, List.append_nil] at hs
  refine Z.lb 1 rfl ?_
  refine Z.yes (s := 122) (b := true) rfl rfl rfl ?_
  refine Z.l rfl rfl (by rfl) (Z.keepS hs) (Z.Yd.pickT rfl rfl) ?_
  refine Z.lb 1 rfl ?_
  refine Z.lnil ?_
  refine Z.only [0] rfl ?_
  refine Z.nthen ?_
  refine Z.ret ?_
  -- ret#0
  refine Z.out1 (by exact ⟨rfl, trivial⟩) ?_
  exact ⟨_, rfl, rfl, hs.sub (List.nil_sublist _)⟩
end Go.Proofs.Ythdhobnkclddhaa

/- Buckets: one call on both sides. -/
namespace Go.Proofs.Ythdhobnkclddhaa
open Go.RowKit
set_option linter.unusedSimpArgs false
set_option linter.unusedVariables false
--newlaws

def AcV.at (x : AcV) (now : Int) : Int := if x.w < 5 then now + max 0 (min 1000 x.n) else x.n
def isD (x : AcV) : Prop := x.w = 0 ∨ x.w = 1 ∨ x.w = 2
def isT (x : AcV) : Prop := x.w = 3 ∨ x.w = 4 ∨ x.w = 5
instance (x : AcV) : Decidable (isD x) := by unfold isD; infer_instance
instance (x : AcV) : Decidable (isT x) := by unfold isT; infer_instance
def actB (m : BkV) (x : AcV) : BkV := if isD x then (divV m x.n x.d).1 else if isT x then (tickV m (x.at m.now)).1 else m
theorem tickV_l (m : BkV) (t : Int) : (tickV m t).1.l = m.l := by unfold tickV; split <;> rfl
theorem BkV.ok.act {m : BkV} (hm : m.ok) (x : AcV) : (actB m x).ok := by
  unfold actB
  split
  · exact hm.div _ _
  · split
    · exact hm.tick _
    · exact hm
/-- what the document's object reads -/
def NewB (Bn B : Option Addr) (dn d : Nat) (m m' : BkV) (Ln : List SX.Ent) : Prop := Ln = [SX.Ent.row (.slice Bn m.l.length dn) 3 1 m.l.length (ints .i64 m'.b)] ∨ Ln = [] ∧ Bn = B ∧ dn = d ∧ m'.b = m.b
end Go.Proofs.Ythdhobnkclddhaa

/- Buckets: any sequence of calls. -/
namespace Go.Proofs.Ythdhobnkclddhaa
open Go.RowKit
set_option linter.unusedSimpArgs false
set_option linter.unusedVariables false
--newlaws

def runB (m : BkV) (l : List AcV) : BkV := l.foldl actB m
theorem BkV.ok.run {m : BkV} (h : m.ok) (l : List AcV) : (runB m l).ok := by
  unfold runB
  induction l generalizing m with
  | nil => exact h
  | cons x l ih => exact ih (h.act x)
theorem rd_logical {W : World} {cs : List Value} (z : Rd Try.prog W 38 cs) : ∃ x : LgV, cs = x.cells ∧ True := by
  obtain ⟨hl, hf⟩ := Rd.field Try.underlying38 z
  have c5 : Try.prog.cellsOf 38 = 5 := by kernel_rfl
  have c1 : Try.prog.cellsOf 3 = 1 := by kernel_rfl
  rw [c5] at hl
  obtain ⟨x0, x1, x2, x3, x4, rfl⟩ := list5 hl
  obtain ⟨a, ha, -⟩ := Rd.int Try.underlying3 (hf 0 _ rfl)
  obtain ⟨b, hb, -⟩ := Rd.int Try.underlying3 (hf 1 _ rfl)
  obtain ⟨p, hp, -⟩ := Rd.int Try.underlying3 (hf 2 _ rfl)
  obtain ⟨q, hq, -⟩ := Rd.int Try.underlying3 (hf 3 _ rfl)
  obtain ⟨r, hr, -⟩ := Rd.int Try.underlying3 (hf 4 _ rfl)
  simp [c1] at ha hb hp hq hr
  subst ha hb hp hq hr
  exact ⟨⟨a, b, p, q, r⟩, rfl, trivial⟩
theorem rd_logicals {W : World} {A : Option Addr} {n c : Nat} (z : Rd Try.prog W 22 [.slice A n c]) : ∃ l : List LgV, l.length = n ∧ n ≤ c ∧ c ≤ maxLen ∧ Sl W A (l.flatMap LgV.cells) := by
  have c8 : Try.prog.cellsOf 38 = 5 := by kernel_rfl
  obtain ⟨xs, h1, h2, h3, -, h5⟩ := Rd.rows LgV.cells (fun _ => True) Try.underlying22 (by rw [c8]; decide) (fun r hr => rd_logical hr) (fun x => c8.symm) z
  exact ⟨xs, h1, h2, h3, h5⟩
theorem ints_flat (xs : List Int) : ints .i64 xs = xs.flatMap fun x : Int => [Value.int .i64 x] := by
  induction xs with
  | nil => rfl
  | cons x xs ih => rw [List.flatMap_cons, ← ih]; rfl
theorem rd_ints {W : World} {A : Option Addr} {n c : Nat} (z : Rd Try.prog W 28 [.slice A n c]) : ∃ l : List Int, l.length = n ∧ n ≤ c ∧ c ≤ maxLen ∧ Sl W A (ints .i64 l) := by
  have c8 : Try.prog.cellsOf 3 = 1 := by kernel_rfl
  obtain ⟨xs, h1, h2, h3, -, h5⟩ := Rd.rows (fun x : Int => [Value.int .i64 x]) (fun _ => True) Try.underlying28 (by rw [c8]; decide) (fun r hr => by
    obtain ⟨n, hn, -⟩ := Rd.int Try.underlying3 hr
    exact ⟨n, hn, trivial⟩) (fun x => c8.symm) z
  refine ⟨xs, h1, h2, h3, ?_⟩
  rw [ints_flat]
  exact h5
end Go.Proofs.Ythdhobnkclddhaa

/- Buckets: the iterator over the channels in the order of service. -/
namespace Go.Proofs.Ythdhobnkclddhaa
open Go.RowKit
set_option linter.unusedSimpArgs false
set_option linter.unusedVariables false
--newlaws

end Go.Proofs.Ythdhobnkclddhaa

/- Buckets: objects that are nil or zero. -/
namespace Go.Proofs.Ythdhobnkclddhaa
open Go.RowKit
set_option linter.unusedSimpArgs false
set_option linter.unusedVariables false
--newlaws

/-- nil, or a zero object -/
def NonP (w : World) (p : Option Addr) : Prop := p = none ∨ ∃ g, p = some ⟨g, 0, none⟩ ∧ Cel w g [.slice none 0 0, .slice none 0 0, .int .i64 0]
theorem NonP.st {w W : World} {L : List SX.Ent} {p : Option Addr} (h : NonP w p) (hW : SX.St w [] W L) : NonP W p := by
  rcases h with h | ⟨g, h, hc⟩
  · exact .inl h
  · exact .inr ⟨g, h, hc.st hW⟩
end Go.Proofs.Ythdhobnkclddhaa

/- Buckets: copies, and the equality of objects. -/
namespace Go.Proofs.Ythdhobnkclddhaa
open Go.RowKit
set_option linter.unusedSimpArgs false
set_option linter.unusedVariables false
--newlaws

theorem NewB.sl {Bn B : Option Addr} {dn d : Nat} {m m' : BkV} {Ln L : List SX.Ent} (h : NewB Bn B dn d m m' Ln) {w0 w : World} {M : List Nat} (hs : SX.St w0 M w L) (hL : ∀ e ∈ Ln, e ∈ L) (hB : SX.Ent.row (.slice B m.l.length d) 3 1 m.l.length (ints .i64 m.b) ∈ L) : Sl w Bn (ints .i64 m'.b) := by
  rcases h with rfl | ⟨rfl, rfl, rfl, e⟩
  · exact hs.slm (hL _ List.mem_cons_self)
  · rw [e]; exact hs.slm hB
end Go.Proofs.Ythdhobnkclddhaa

/- Buckets: sums, plainly. -/
namespace Go.Proofs.Ythdhobnkclddhaa
open Go.RowKit
set_option linter.unusedSimpArgs false
set_option linter.unusedVariables false

def sm (l : List Int) : Nat → Int
  | 0 => 0
  | k + 1 => sm l k + elt l (k : Int)
theorem sm_le {l : List Int} {c : Int} : ∀ {k : Nat}, (∀ i : Nat, i < k → elt l (i : Int) ≤ c) → sm l k ≤ k * c
  | 0, _ => by simp [sm]
  | k + 1, h => by
    have h1 := sm_le (l := l) (c := c) (k := k) fun i hi => h i (by omega)
    have h2 := h k (by omega)
    have h3 : ((k + 1 : Nat) : Int) * c = k * c + c := by rw [Int.natCast_add, Int.add_mul]; simp
    simp only [sm]
    omega
theorem sm_ge {l : List Int} : ∀ {k : Nat}, (∀ i : Nat, i < k → 0 ≤ elt l (i : Int)) → 0 ≤ sm l k
  | 0, _ => by simp [sm]
  | k + 1, h => by
    have h1 := sm_ge (l := l) (k := k) fun i hi => h i (by omega)
    have h2 := h k (by omega)
    simp only [sm]
    omega
theorem sm_mono {l l' : List Int} : ∀ {k : Nat}, (∀ i : Nat, i < k → elt l (i : Int) ≤ elt l' (i : Int)) → sm l k ≤ sm l' k
  | 0, _ => by simp [sm]
  | k + 1, h => by
    have h1 := sm_mono (l := l) (l' := l') (k := k) fun i hi => h i (by omega)
    have h2 := h k (by omega)
    simp only [sm]
    omega
theorem sm_eq {l l' : List Int} : ∀ {k : Nat}, (∀ i : Nat, i < k → elt l (i : Int) = elt l' (i : Int)) → sm l k = sm l' k
  | 0, _ => by simp [sm]
  | k + 1, h => by
    have h1 := sm_eq (l := l) (l' := l') (k := k) fun i hi => h i (by omega)
    have h2 := h k (by omega)
    simp only [sm]
    omega
theorem sm_set {l : List Int} {i : Nat} (v : Int) (hi : i < l.length) : ∀ {k : Nat}, sm (l.set i v) k = if i < k then sm l k + (v - elt l (i : Int)) else sm l k
  | 0 => by simp [sm]
  | k + 1 => by
    have h1 := sm_set (l := l) (i := i) v hi (k := k)
    simp only [sm]
    rw [h1, elt_set hi]
    by_cases h : i < k
    · rw [if_pos h, if_neg (show ¬ i = k by omega), if_pos (show i < k + 1 by omega)]; omega
    · rw [if_neg h]
      by_cases h2 : i = k
      · subst h2; rw [if_pos rfl, if_pos (show i < i + 1 by omega)]; omega
      · rw [if_neg h2, if_neg (show ¬ i < k + 1 by omega)]
/-- the sum over some places -/
def so (b : List Int) : List Nat → Int
  | [] => 0
  | i :: o => elt b (i : Int) + so b o
theorem so_app (b : List Int) : ∀ (o o' : List Nat), so b (o ++ o') = so b o + so b o'
  | [], o' => by simp [so]
  | i :: o, o' => by rw [List.cons_append, so, so, so_app b o o']; omega
theorem so_perm {b : List Int} {o o' : List Nat} (h : o.Perm o') : so b o = so b o' := by
  induction h with
  | nil => rfl
  | cons x _ ih => rw [so, so, ih]
  | swap x y l => simp only [so]; omega
  | trans _ _ h1 h2 => rw [h1, h2]
theorem so_range (b : List Int) : ∀ n, so b (List.range n) = sm b n
  | 0 => rfl
  | n + 1 => by rw [List.range_succ, so_app, so_range b n]; simp [so, sm]
theorem so_ge {b : List Int} : ∀ {o : List Nat}, (∀ i ∈ o, 0 ≤ elt b (i : Int)) → 0 ≤ so b o
  | [], _ => by simp [so]
  | i :: o, h => by
    have h1 := so_ge (b := b) (o := o) fun j hj => h j (by simp [hj])
    have h2 := h i (by simp)
    simp only [so]
    omega
theorem so_eq {b b' : List Int} : ∀ {o : List Nat}, (∀ i ∈ o, elt b (i : Int) = elt b' (i : Int)) → so b o = so b' o
  | [], _ => rfl
  | i :: o, h => by
    have h1 := so_eq (b := b) (b' := b') (o := o) fun j hj => h j (by simp [hj])
    have h2 := h i (by simp)
    simp only [so]
    omega
theorem dst_out {m : BkV} {dem : List Int} {s : DvS} (hs : s.ok m dem) (r : Nat) {i j : Nat} (hi : i < m.l.length) : elt (dst r dem s i).out (j : Int) = if i = j then elt s.out (i : Int) + amt r dem s i else elt s.out (j : Int) := by
  simp only [dst]
  rw [elt_set (by rw [hs.ol]; exact hi)]
theorem dst_b {m : BkV} {dem : List Int} {s : DvS} (hs : s.ok m dem) (r : Nat) {i j : Nat} (hi : i < m.l.length) (hij : i ≠ j) : elt (dst r dem s i).b (j : Int) = elt s.b (j : Int) := by
  simp only [dst]
  split
  · rw [elt_set (by rw [hs.bl]; exact hi), if_neg hij]
  · rfl
theorem rnd_mono {m : BkV} {dem : List Int} {r : Nat} : ∀ {o : List Nat} {s : DvS}, s.ok m dem → (∀ i ∈ o, i < m.l.length) → (rnd r dem s o).sz ≤ s.sz ∧ ∀ j : Nat, elt s.out (j : Int) ≤ elt (rnd r dem s o).out (j : Int)
  | [], s, _, _ => ⟨Int.le_refl _, fun j => Int.le_refl _⟩
  | i :: o, s, hs, ho => by
    have hi := ho i (by simp)
    obtain ⟨h1, h2⟩ := rnd_mono (r := r) (o := o) (hs.step r hi) fun j hj => ho j (by simp [hj])
    obtain ⟨a1, a2, a3, -⟩ := amt_bd hs r hi
    refine ⟨Int.le_trans h1 (by simp only [dst]; omega), fun j => Int.le_trans ?_ (h2 j)⟩
    rw [dst_out hs r hi]
    split
    · rename_i e; subst e; omega
    · exact Int.le_refl _
theorem rnd_sum {m : BkV} {dem : List Int} {r : Nat} : ∀ {o : List Nat} {s : DvS}, s.ok m dem → (∀ i ∈ o, i < m.l.length) → sm (rnd r dem s o).out m.l.length + (rnd r dem s o).sz = sm s.out m.l.length + s.sz
  | [], s, _, _ => rfl
  | i :: o, s, hs, ho => by
    have hi := ho i (by simp)
    have h1 := rnd_sum (r := r) (o := o) (hs.step r hi) fun j hj => ho j (by simp [hj])
    show sm (rnd r dem (dst r dem s i) o).out m.l.length + (rnd r dem (dst r dem s i) o).sz = _
    rw [h1]
    simp only [dst]
    rw [sm_set _ (by rw [hs.ol]; exact hi), if_pos hi]
    omega
theorem rnd_fill {m : BkV} {dem : List Int} : ∀ {o : List Nat} {s : DvS}, s.ok m dem → (∀ i ∈ o, i < m.l.length) → (rnd 1 dem s o).sz = 0 ∨ ∀ i ∈ o, elt (rnd 1 dem s o).out (i : Int) = elt dem (i : Int)
  | [], s, _, _ => .inr (by simp)
  | i :: o, s, hs, ho => by
    have hi := ho i (by simp)
    have ho' : ∀ j ∈ o, j < m.l.length := fun j hj => ho j (by simp [hj])
    have hs1 := hs.step 1 hi
    have hs2 := hs1.fold 1 ho'
    obtain ⟨m1, m2⟩ := rnd_mono (r := 1) (o := o) hs1 ho'
    have m3 := m2 i
    have h6 := hs2.sz
    have h7 := hs2.og i hi
    have h8 := hs1.sz
    rcases rnd_fill (o := o) hs1 ho' with h | h
    · exact .inl h
    · have hd : elt (dst 1 dem s i).out (i : Int) = elt s.out (i : Int) + amt 1 dem s i := by rw [dst_out hs 1 hi, if_pos rfl]
      have hz : (dst 1 dem s i).sz = s.sz - amt 1 dem s i := rfl
      have ha : amt 1 dem s i = min (elt dem (i : Int) - elt s.out (i : Int)) s.sz := rfl
      by_cases hc : elt dem (i : Int) - elt s.out (i : Int) ≤ s.sz
      · right
        intro j hj
        rcases List.mem_cons.1 hj with rfl | hj
        · show elt (rnd 1 dem (dst 1 dem s j) o).out (j : Int) = _
          omega
        · exact h j hj
      · left
        show (rnd 1 dem (dst 1 dem s i) o).sz = 0
        omega
theorem rnd_guar {m : BkV} {dem : List Int} : ∀ {o : List Nat} {s : DvS}, s.ok m dem → (∀ i ∈ o, i < m.l.length) → o.Nodup → so s.b o ≤ s.sz → (∀ i ∈ o, elt s.out (i : Int) = 0) → ∀ i ∈ o, min (elt dem (i : Int)) (elt s.b (i : Int)) ≤ elt (rnd 0 dem s o).out (i : Int)
  | [], s, _, _, _, _, _ => by simp
  | i :: o, s, hs, ho, hn, hb, hz => by
    have hi := ho i (by simp)
    have ho' : ∀ j ∈ o, j < m.l.length := fun j hj => ho j (by simp [hj])
    obtain ⟨hni, hno⟩ := List.nodup_cons.1 hn
    have hs1 := hs.step 0 hi
    obtain ⟨m1, m2⟩ := rnd_mono (r := 0) (o := o) hs1 ho'
    have hne : ∀ j ∈ o, i ≠ j := fun j hj e => hni (e ▸ hj)
    have hg := so_ge (b := s.b) (o := o) fun j hj => (hs.bg j (ho' j hj)).1
    have hz0 := hz i (by simp)
    have ha : amt 0 dem s i = min (min (elt dem (i : Int) - elt s.out (i : Int)) (elt s.b (i : Int))) s.sz := rfl
    simp only [so] at hb
    have hb1 := hs.bg i hi
    have hd1 := hs.og i hi
    have hsb : so (dst 0 dem s i).b o = so s.b o := so_eq fun j hj => dst_b hs 0 hi (hne j hj)
    have hsz : (dst 0 dem s i).sz = s.sz - amt 0 dem s i := rfl
    have ih := rnd_guar (o := o) hs1 ho' hno (by rw [hsb, hsz]; omega) fun j hj => by
      rw [dst_out hs 0 hi, if_neg (hne j hj)]
      exact hz j (by simp [hj])
    intro j hj
    rcases List.mem_cons.1 hj with rfl | hj
    · have m3 := m2 j
      rw [dst_out hs 0 hi, if_pos rfl] at m3
      show _ ≤ elt (rnd 0 dem (dst 0 dem s j) o).out (j : Int)
      omega
    · have := ih j hj
      rw [dst_b hs 0 hi (hne j hj)] at this
      exact this
/-- what is given in all -/
theorem rounds_all {m : BkV} (hm : m.ok) {size : Int} {dem : List Int} (h : okD m size dem) : sm (rounds m size dem 2).out m.l.length = min size (sm dem m.l.length) := by
  have o1 := rounds_ok hm h 1
  have o2 := rounds_ok hm h 2
  have s0 : sm (dv0 m size).out m.l.length = 0 := by
    have h1 := sm_le (l := (dv0 m size).out) (c := 0) (k := m.l.length) fun i hi => by simp [dv0, elt, hi]
    have h2 := sm_ge (l := (dv0 m size).out) (k := m.l.length) fun i hi => by simp [dv0, elt, hi]
    omega
  have s1 : sm (rounds m size dem 1).out m.l.length + (rounds m size dem 1).sz = sm (dv0 m size).out m.l.length + size := rnd_sum (dv0_ok hm h) (ord_lt hm)
  have s2 : sm (rounds m size dem 2).out m.l.length + (rounds m size dem 2).sz = sm (rounds m size dem 1).out m.l.length + (rounds m size dem 1).sz := rnd_sum o1 (ord_lt hm)
  have hz := o2.sz
  have hle := sm_mono (l := (rounds m size dem 2).out) (l' := dem) (k := m.l.length) fun i hi => (o2.og i hi).2
  have hf : (rounds m size dem 2).sz = 0 ∨ ∀ i ∈ ordL m.l, elt (rounds m size dem 2).out (i : Int) = elt dem (i : Int) := rnd_fill o1 (ord_lt hm)
  rcases hf with h0 | h0
  · omega
  · have := sm_eq (l := (rounds m size dem 2).out) (l' := dem) (k := m.l.length) fun i hi => h0 i ((mem_ordL hm.set).2 hi)
    omega
/-- what is guaranteed -/
theorem rounds_guar {m : BkV} (hm : m.ok) {size : Int} {dem : List Int} (h : okD m size dem) (hb : sm m.b m.l.length ≤ size) {i : Nat} (hi : i < m.l.length) : min (elt dem (i : Int)) (elt m.b (i : Int)) ≤ elt (rounds m size dem 2).out (i : Int) := by
  have hso : so m.b (ordL m.l) = sm m.b m.l.length := by rw [so_perm (ordL_perm hm.set), so_range]
  have h1 := rnd_guar (dv0_ok hm h) (ord_lt hm) (ordL_nodup hm.set) (by show so m.b (ordL m.l) ≤ size; omega) (fun j hj => by simp [dv0, elt, ord_lt hm j hj]) i ((mem_ordL hm.set).2 hi)
  exact Int.le_trans h1 ((rnd_mono (r := 1) (rounds_ok hm h 1) (ord_lt hm)).2 i)
/-- steps of time add up -/
theorem tick_add {m : BkV} (hm : m.ok) (h0 : m.now = 0) {p q : Int} (hp : 0 ≤ p ∧ p ≤ 1000000) (hq : 0 ≤ q ∧ q ≤ 1000000) : tickV (tickV m p).1 (p + q) = tickV m (p + q) ∧ (tickV m p).2 = 0 ∧ (tickV m (p + q)).2 = 0 := by
  have e1 : okT m p := by unfold okT; omega
  have e2 : okT m (p + q) := by unfold okT; omega
  have t1 : tickV m p = ({ tickG m p m.l.length with now := p }, 0) := if_pos e1
  have t2 : tickV m (p + q) = ({ tickG m (p + q) m.l.length with now := p + q }, 0) := if_pos e2
  have e3 : okT (tickV m p).1 (p + q) := by rw [t1]; unfold okT; simp only; omega
  have t3 : tickV (tickV m p).1 (p + q) = ({ tickG (tickV m p).1 (p + q) (tickV m p).1.l.length with now := p + q }, 0) := if_pos e3
  refine ⟨?_, by rw [t1], by rw [t2]⟩
  rw [t3, t2]
  have hl : (tickV m p).1.l = m.l := tickV_l m p
  have hb : (tickG (tickV m p).1 (p + q) (tickV m p).1.l.length).b = (tickG m (p + q) m.l.length).b := by
    refine List.ext_getElem (by simp [tickG, upTo_len, hl]) fun k h1 h2 => ?_
    have hk : k < m.l.length := by simpa [tickG, upTo_len] using h2
    rw [← elt_get h1, ← elt_get h2]
    simp only [tickG]
    rw [upTo_elt (by rw [hl]; exact hk), upTo_elt hk, if_pos (by rw [hl]; exact hk), if_pos hk]
    have hbp : elt (tickV m p).1.b (k : Int) = tkF m p k := by
      rw [t1]
      simp only [tickG]
      rw [upTo_elt hk, if_pos hk]
    have hnp : (tickV m p).1.now = p := by rw [t1]
    unfold tkF at hbp ⊢
    rw [hl, hbp, hnp]
    have hr := (hm.set.lg hk).2.2.1.1
    have hd := (hm.set.lg hk).2.2.2.1
    have hb0 := hm.bd k hk
    have hx : m.l[k]!.rt * (p + q - m.now) = m.l[k]!.rt * (p - m.now) + m.l[k]!.rt * (p + q - p) := by rw [← Int.mul_add]; congr 1; omega
    have hy : 0 ≤ m.l[k]!.rt * (p + q - p) := Int.mul_nonneg hr (by omega)
    omega
  simp only [tickG] at hb ⊢
  rw [hb, hl]
theorem lvV_at {m : BkV} (hm : m.ok) {k : Nat} (hk : k < m.l.length) : lvV m m.l[k]!.id = (elt m.b (k : Int), true) := by
  refine lvV_some (fun x hx => ?_) hk rfl
  obtain ⟨j, hj, rfl⟩ := List.mem_take_iff_getElem.1 hx
  have hjk : j < k := by omega
  have := hm.set.idne (i := j) (j := k) (by omega) hk (by omega)
  rw [getElem!_pos m.l j (by omega)] at this
  simpa using this
end Go.Proofs.Ythdhobnkclddhaa

/- Buckets: the theorem of the stage. -/
namespace Go.Proofs.Ythdhobnkclddhaa
open Go.RowKit
set_option linter.unusedSimpArgs false
set_option linter.unusedVariables false
--newlaws

theorem bk_levAt (g : Nat) (m : BkV) (k : Nat) (x : LgV) (w : World) (hr : BkR w g m) (hm : m.ok) (hk : k < m.l.length) (hx : m.l[k]? = some x) : Calls Try.prog 17 #[.pointer (some ⟨g, 0, none⟩), .int .i64 x.id] w (SX.Ret fun v w' => v = .tuple #[.int .i64 (elt m.b (k : Int)), .bool true] ∧ SX.St w [] w' []) := by
  have h1 : x = m.l[k]! := by rw [getElem!_pos m.l k hk]; rw [List.getElem?_eq_getElem hk] at hx; exact (Option.some.inj hx).symm
  have := bk_level g m x.id w hr hm
  rw [h1, lvV_at hm hk] at this
  rw [h1]
  exact this
set_option maxHeartbeats 2000000 in
set_option maxRecDepth 100000 in
theorem bucketHolds_walk (A D : Option Addr) (n c nd cd : Nat) (size one two : Int) (ls : List LgV) (dem : List Int) (w : World) (hx : Sl w A (ls.flatMap LgV.cells)) (hl : ls.length = n) (hc : n ≤ c) (hD : Sl w D (ints .i64 dem)) (hdl : dem.length = nd) :
    Calls Try.prog 4 #[.slice A n c, .int .i64 size, .slice D nd cd, .int .i64 one, .int .i64 two] w (SX.Ret fun v w' => v = .bool true ∧ SX.St w [] w' []) := by
  have hs := SX.St.start w
  by_cases hset : okSet ls
  · by_cases ht : (0 ≤ one ∧ one ≤ 1000000) ∧ 0 ≤ two ∧ two ≤ 1000000
    · have hok := newB_ok hset
      have hn10 := hset.1
      obtain ⟨ta, tb, tc⟩ := tick_add hok rfl ht.1 ht.2
      have ok1 := hok.tick one
      have okm := hok.tick (one + two)
      have hml : (tickV (newB ls) (one + two)).1.l = ls := tickV_l _ _
      obtain ⟨m1, hm1⟩ : ∃ m1, m1 = (tickV (newB ls) (one + two)).1 := ⟨_, rfl⟩
      rw [← hm1] at okm hml
      have ea : (tickV (tickV (newB ls) one).1 (one + two)).1 = m1 := by rw [ta, hm1]
      have eb : (tickV (tickV (newB ls) one).1 (one + two)).2 = 0 := by rw [ta, tc]
      subst hl
      have hbl := okm.len
      refine Z.enter Try.func4 rfl Try.ntmps4 rfl rfl ?_
      refine Z.seq ?_
      refine Z.region ?_
      refine Z.lb 1 rfl ?_
      refine Z.lnil ?_
      refine Z.only [0, 1, 2, 3, 4] rfl ?_
      refine Z.nthen ?_
      refine Z.seq ?_
      refine Z.seq ?_
      refine Z.region ?_
      refine Z.lb 1 rfl ?_
      refine Z.l rfl rfl (by rfl) (Z.keepS hs) (Z.Yd.lenS rfl Try.underlying22) ?_
      refine Z.lb 2 rfl ?_
      refine Z.yes (s := 33) (b := false) rfl ((by simp; omega)) rfl ?_
      refine Z.lb 1 rfl ?_
      refine Z.yes (s := 33) (b := false) rfl rfl rfl ?_
      refine Z.le rfl (by exact ⟨rfl, trivial⟩) ?_
      refine Z.ZO.call rfl rfl (by rfl) rfl rfl Try.call13 rfl (rv_valid A ls.length c ls _ hx rfl) ?_
      rintro v1_5 w1_5 ⟨rfl, hy⟩
      replace hs := hs.call hy
      clear hy
      try simp only [List.cons_append, List.nil_append, List.append_nil] at hs
      refine Z.lb 1 rfl ?_
      refine Z.yes (s := 33) (b := false) rfl rfl rfl ?_
      refine Z.l rfl rfl (by rfl) (Z.keepS hs) (Z.Yd.pickF rfl rfl) ?_
      refine Z.lb 16 rfl ?_
      refine Z.lnil ?_
      refine Z.only [0, 1, 2, 3, 4, 53] rfl ?_
      refine Z.nthen ?_
      refine Z.cond rfl (fun h => absurd h (by simp [hset]; omega)) (fun hc1 => ?_)
      refine Z.skip ?_
      refine Z.nthen ?_
      refine Z.seq ?_
      refine Z.region ?_
      refine Z.lb 1 rfl ?_
      refine Z.le rfl trivial ?_
      refine Z.ZO.call rfl rfl (by rfl) rfl rfl Try.call9 rfl (wk25_new A ls.length c ls _ (hx.st (hs.sub (List.nil_sublist _))) rfl (by omega) hc hset) ?_
      rintro v3_1 w3_1 ⟨ga, sva, soa, rfl, hy⟩
      replace hs := hs.call hy
      clear hy
      try simp only [List.cons_append, List.nil_append, List.append_nil] at hs
      refine Z.lb 5 rfl ?_
      refine Z.lnil ?_
      refine Z.only [0, 1, 2, 3, 4, 11, 12] rfl ?_
      refine Z.nthen ?_
      refine Z.seq ?_
      refine Z.region ?_
      refine Z.lb 1 rfl ?_
      refine Z.le rfl trivial ?_
      refine Z.ZO.call rfl rfl (by rfl) rfl rfl Try.call9 rfl (wk25_new A ls.length c ls _ (hx.st (hs.sub (List.nil_sublist _))) rfl (by omega) hc hset) ?_
      rintro v4_1 w4_1 ⟨gb, svb, sob, rfl, hy⟩
      replace hs := hs.call hy
      clear hy
      try simp only [List.cons_append, List.nil_append, List.append_nil] at hs
      refine Z.lb 5 rfl ?_
      refine Z.lnil ?_
      refine Z.only [0, 1, 2, 3, 4, 11, 12, 13, 14] rfl ?_
      refine Z.nthen ?_
      refine Z.seq ?_
      refine Z.region ?_
      refine Z.lb 2 rfl ?_
      replace hs : SX.St w [] _ (bkE ga sva soa (newB ls) ++ bkE gb svb sob (newB ls)) := hs.sel [3, 4, 5, 0, 1, 2] (by decide)
      refine Z.le rfl trivial ?_
      refine Z.ZO.call rfl rfl (by rfl) rfl rfl Try.call14 rfl (wk25_tick ga sva soa (newB ls) one _ _ hs.lend hok rfl) ?_
      rintro v5_2 w5_2 ⟨rfl, hz⟩
      replace hs := hs.regain hz
      rw [tb]
      refine Z.lb 3 rfl ?_
      refine Z.l rfl rfl (by rfl) (Z.keepS hs) (Z.Yd.add rfl rfl (fun hG => Z.wi64 (by first | omega | (have hG' := Z.gh rfl hG; simp at hG'; omega)))) ?_
      refine Z.le rfl trivial ?_
      refine Z.ZO.call rfl rfl (by rfl) rfl rfl Try.call14 rfl (wk25_tick ga sva soa _ (one + two) _ _ hs.lend ok1 rfl) ?_
      rintro v5_7 w5_7 ⟨rfl, hz⟩
      replace hs := hs.regain hz
      rw [eb]
      rw [ea] at hs
      replace hs : SX.St w [] _ (bkE gb svb sob (newB ls) ++ bkE ga sva soa m1) := hs.rot
      refine Z.lb 3 rfl ?_
      refine Z.l rfl rfl (by rfl) (Z.keepS hs) (Z.Yd.add rfl rfl (fun hG => Z.wi64 (by first | omega | (have hG' := Z.gh rfl hG; simp at hG'; omega)))) ?_
      refine Z.le rfl trivial ?_
      refine Z.ZO.call rfl rfl (by rfl) rfl rfl Try.call14 rfl (wk25_tick gb svb sob (newB ls) (one + two) _ _ hs.lend hok rfl) ?_
      rintro v5_12 w5_12 ⟨rfl, hz⟩
      replace hs := hs.regain hz
      rw [tc]
      rw [← hm1] at hs
      refine Z.lb 3 rfl ?_
      refine Z.lnil ?_
      refine Z.only [0, 1, 2, 11, 12, 13, 14, 15, 16, 17] rfl ?_
      refine Z.nthen ?_
      refine Z.seq ?_
      refine Z.seq ?_
      refine Z.region ?_
      refine Z.lb 1 rfl ?_
      refine Z.le rfl trivial ?_
      refine Z.ZO.call rfl rfl (by rfl) rfl rfl Try.call15 rfl (bk_num _ _) ?_
      rintro v6_1 w6_1 ⟨rfl, hy⟩
      replace hs := hs.call hy
      clear hy
      try simp only [List.cons_append, List.nil_append, List.append_nil] at hs
      refine Z.lb 1 rfl ?_
      refine Z.le rfl trivial ?_
      refine Z.ZO.call rfl rfl (by rfl) rfl rfl Try.call15 rfl (bk_num _ _) ?_
      rintro v6_3 w6_3 ⟨rfl, hy⟩
      replace hs := hs.call hy
      clear hy
      try simp only [List.cons_append, List.nil_append, List.append_nil] at hs
      refine Z.l rfl rfl (by rfl) (Z.keepS hs) (Z.Yd.add rfl rfl (fun hG => Z.wi64 (by first | omega | (have hG' := Z.gh rfl hG; simp at hG'; omega)))) ?_
      refine Z.lb 1 rfl ?_
      refine Z.le rfl trivial ?_
      refine Z.ZO.call rfl rfl (by rfl) rfl rfl Try.call15 rfl (bk_num _ _) ?_
      rintro v6_6 w6_6 ⟨rfl, hy⟩
      replace hs := hs.call hy
      clear hy
      try simp only [List.cons_append, List.nil_append, List.append_nil] at hs
      refine Z.l rfl rfl (by rfl) (Z.keepS hs) (Z.Yd.add rfl rfl (fun hG => Z.wi64 (by first | omega | (have hG' := Z.gh rfl hG; simp at hG'; omega)))) ?_
      refine Z.lb 1 rfl ?_
      refine Z.le rfl trivial ?_
      refine Z.ZO.call rfl rfl (by rfl) rfl rfl Try.call15 rfl (bk_num _ _) ?_
      rintro v6_9 w6_9 ⟨rfl, hy⟩
      replace hs := hs.call hy
      clear hy
      try simp only [List.cons_append, List.nil_append, List.append_nil] at hs
      refine Z.l rfl rfl (by rfl) (Z.keepS hs) (Z.Yd.add rfl rfl (fun hG => Z.wi64 (by first | omega | (have hG' := Z.gh rfl hG; simp at hG'; omega)))) ?_
      refine Z.lb 1 rfl ?_
      refine Z.le rfl trivial ?_
      refine Z.ZO.call rfl rfl (by rfl) rfl rfl Try.call15 rfl (bk_num _ _) ?_
      rintro v6_12 w6_12 ⟨rfl, hy⟩
      replace hs := hs.call hy
      clear hy
      try simp only [List.cons_append, List.nil_append, List.append_nil] at hs
      refine Z.l rfl rfl (by rfl) (Z.keepS hs) (Z.Yd.add rfl rfl (fun hG => Z.wi64 (by first | omega | (have hG' := Z.gh rfl hG; simp at hG'; omega)))) ?_
      refine Z.lb 2 rfl ?_
      refine Z.yes (s := 93) (b := false) rfl ((by simp)) rfl ?_
      refine Z.lb 2 rfl ?_
      refine Z.yes (s := 93) (b := false) rfl rfl rfl ?_
      refine Z.le rfl (by exact ⟨rfl, trivial⟩) ?_
      refine Z.ZO.call rfl rfl (by rfl) rfl rfl Try.call16 rfl (bk_same ga gb m1 m1 _ (hs.bkR (sv := sva) (so := soa) (fun e he ↦ by simp [he])) (hs.bkR (sv := svb) (so := sob) (fun e he ↦ by simp [he])) okm okm) ?_
      rintro v6_18 w6_18 ⟨rfl, hy⟩
      replace hs := hs.call hy
      clear hy
      try simp only [List.cons_append, List.nil_append, List.append_nil] at hs
      refine Z.lb 1 rfl ?_
      refine Z.yes (s := 93) (b := false) rfl rfl rfl ?_
      refine Z.l rfl rfl (by rfl) (Z.keepS hs) (Z.Yd.pickF rfl rfl) ?_
      refine Z.lnil ?_
      refine Z.only [0, 1, 2, 11, 13, 98] rfl ?_
      refine Z.nthen ?_
      refine Z.cond rfl (fun h => absurd h (by simp)) (fun hc6 => ?_)
      refine Z.skip ?_
      refine Z.nthen ?_
      refine Z.seq ?_
      refine Z.region ?_
      refine Z.lb 1 rfl ?_
      refine Z.lnil ?_
      refine Z.only [0, 1, 2, 11, 13, 18] rfl ?_
      refine Z.nthen ?_
      refine Z.seq ?_
      refine Z.region ?_
      refine Z.lb 1 rfl ?_
      refine Z.lnil ?_
      refine Z.only [0, 1, 2, 11, 13, 18, 19] rfl ?_
      refine Z.nthen ?_
      refine Z.seq ?_
      refine Z.seq ?_
      refine Z.region ?_
      replace hs := hs.nil 3 1
      refine Z.l rfl rfl (by rfl) (Z.keepS hs) (Z.Yd.pure rfl) ?_
      refine Z.lnil ?_
      refine Z.only [0, 1, 2, 11, 13, 18, 19, 20] rfl ?_
      refine Z.nthen ?_
      refine Z.block ?_
      refine Z.loopk (ι := Nat × Value) [0, 1, 2, 11, 13] rfl (fun x => [(18, [], x.2), (19, [], .int .i64 (sm m1.b x.1)), (20, [], .int .i64 (x.1 : Int))]) (fun x wr => x.1 ≤ ls.length ∧ SX.St w [] wr (SX.Ent.row x.2 3 1 x.1 (ints .i64 (m1.b.take x.1)) :: (bkE gb svb sob m1 ++ bkE ga sva soa m1))) (fun x => ls.length - x.1) (0, .slice none 0 0) (by refine ⟨?_, ?_, ?_, trivial⟩ <;> (first | rfl | (refine Z.lookv rfl ?_; simp; done) | (refine Z.lookv rfl ?_; simp; omega))) ⟨Nat.zero_le _, hs⟩ ?_
      clear hs
      rintro ⟨k, sv⟩ w11 ⟨hk, hs⟩
      refine Z.only [0, 1, 2, 11, 13, 18, 19, 20] rfl ?_
      (try dsimp only at hs)
      dsimp only at hk hs
      refine Z.seq ?_
      refine Z.seq ?_
      refine Z.region ?_
      refine Z.lb 2 rfl ?_
      refine Z.l rfl rfl (by rfl) (Z.keepS hs) (Z.Yd.lenS rfl Try.underlying22) ?_
      refine Z.lb 1 rfl ?_
      refine Z.lnil ?_
      refine Z.only [0, 1, 2, 11, 13, 18, 19, 20, 102] rfl ?_
      refine Z.nthen ?_
      refine Z.cond rfl (fun hc11 => ?_) (fun hc11 => ?_)
      · first
          | (exfalso; simp at hc11 <;> omega)
          | (
            (try simp at hc11)
            have hlt : k < m1.l.length := by rw [hml]; omega
            obtain ⟨x, hxk⟩ : ∃ x, ls[k]? = some x := ⟨_, List.getElem?_eq_getElem (by omega)⟩
            have hxk1 : m1.l[k]? = some x := by rw [hml]; exact hxk
            have hb1 := okm.bd k hlt
            have hxd : m1.l[k]! = x := by rw [getElem!_pos m1.l k hlt]; rw [List.getElem?_eq_getElem hlt] at hxk1; exact Option.some.inj hxk1
            rw [hxd] at hb1
            have hxo := (hset.2.1 x (List.mem_of_getElem? hxk)).2.2.2.1
            have hb2 : m1.b[k]? = some (elt m1.b (k : Int)) := by rw [elt_get (by omega)]; exact List.getElem?_eq_getElem (by omega)
            have hsm := sm_le (l := m1.b) (c := 16777216) (k := k) fun i hi => by
              have h1 := okm.bd i (by rw [hml]; omega)
              have h2 := (hset.lg (i := i) (by omega)).2.2.2.1
              rw [hml] at h1
              omega
            have hsg := sm_ge (l := m1.b) (k := k) fun i hi => (okm.bd i (by rw [hml]; omega)).1
            have hsp : 0 ≤ sm m1.b (k, sv).fst ∧ sm m1.b (k, sv).fst ≤ 167772160 := ⟨hsg, by show sm m1.b k ≤ _; omega⟩
            obtain ⟨bb, off, rfl, hb0, hx2⟩ := Z.Sl.some hx (by rw [flat_len lg_len]; omega)
            refine Z.skip ?_
            refine Z.nthen ?_
            refine Z.seq ?_
            refine Z.block ?_
            refine Z.seq ?_
            refine Z.region ?_
            refine Z.lb 3 rfl ?_
            refine Z.l rfl rfl (by rfl) (Z.keepS hs) (Z.Yd.elem rfl rfl Try.underlying22 Try.sizeOf38 (fun hG => ⟨(by first | omega | (have hG' := Z.gh rfl hG; simp at hG'; omega)), (by first | omega | (have hG' := Z.gh rfl hG; simp at hG'; omega))⟩)) ?_
            refine Z.l rfl rfl (by rfl) (Z.keepS hs) (Z.Yd.fieldA (m := 0) rfl (by kernel_rfl)) ?_
            refine Z.l rfl rfl (by rfl) (Z.keepS hs) (Z.Yd.load rfl Try.isAgg3 (fun _ => Z.cellXf hx2.sx lg_len hxk rfl)) ?_
            refine Z.le rfl trivial ?_
            refine Z.ZO.call rfl rfl (by rfl) rfl rfl Try.call17 rfl (bk_levAt ga m1 k x _ (hs.bkR (sv := sva) (so := soa) (fun e he ↦ by simp [he])) okm hlt hxk1) ?_
            rintro v13_6 w13_6 ⟨rfl, hy⟩
            replace hs := hs.call hy
            clear hy
            try simp only [List.cons_append, List.nil_append, List.append_nil] at hs
            refine Z.lb 5 rfl ?_
            refine Z.lnil ?_
            refine Z.only [0, 1, 2, 11, 13, 18, 19, 20, 21, 22] rfl ?_
            refine Z.nthen ?_
            refine Z.seq ?_
            refine Z.seq ?_
            refine Z.region ?_
            refine Z.lb 10 rfl ?_
            refine Z.l rfl rfl (by rfl) (Z.keepS hs) (Z.Yd.elem rfl rfl Try.underlying22 Try.sizeOf38 (fun hG => ⟨(by first | omega | (have hG' := Z.gh rfl hG; simp at hG'; omega)), (by first | omega | (have hG' := Z.gh rfl hG; simp at hG'; omega))⟩)) ?_
            refine Z.l rfl rfl (by rfl) (Z.keepS hs) (Z.Yd.fieldA (m := 3) rfl (by kernel_rfl)) ?_
            refine Z.l rfl rfl (by rfl) (Z.keepS hs) (Z.Yd.load rfl Try.isAgg3 (fun _ => Z.cellXf hx2.sx lg_len hxk rfl)) ?_
            refine Z.lb 2 rfl ?_
            refine Z.lnil ?_
            refine Z.only [0, 1, 2, 11, 13, 18, 19, 20, 21, 129] rfl ?_
            refine Z.nthen ?_
            refine Z.cond rfl (fun h => absurd h (by simp; omega)) (fun hc14 => ?_)
            refine Z.skip ?_
            refine Z.nthen ?_
            refine Z.seq ?_
            refine Z.region ?_
            refine Z.lb 2 rfl ?_
            refine Z.le rfl trivial ?_
            refine Z.ZO.litL (T' := 3) [(0, 1)] [.int .i64 0] rfl rfl (by rfl) rfl rfl (by intro W; kernel_rfl) hs ?_
            clear hs; intro g132 w132 hs
            refine Z.le rfl trivial ?_
            refine Z.ZO.append (i0 := Try.t3) (size := 1) (bytes := 8) rfl rfl (by rfl) hs Try.underlying28 (by kernel_rfl) rfl rfl rfl rfl (by decide) rfl rfl (by first | exact SX.at0 | exact SX.at1 | exact SX.at2 | exact SX.at3 | exact SX.at4 | exact SX.at5 | exact Z.at6 | exact Z.at7 | exact Z.at8 | exact Z.at9 | exact Z.at10 | exact Z.at11 | exact Z.at12) (by first | exact SX.at0 | exact SX.at1 | exact SX.at2 | exact SX.at3 | exact SX.at4 | exact SX.at5 | exact Z.at6 | exact Z.at7 | exact Z.at8 | exact Z.at9 | exact Z.at10 | exact Z.at11 | exact Z.at12) (by first | rfl | simp) (by simp [Value.oneCell']) (by decide) (by unfold maxLen; omega) (by omega) ?_
            clear hs; intro g133 cap133 w133 hs
            simp only [List.set_cons_zero, List.set_cons_succ, List.eraseIdx_cons_zero, List.eraseIdx_cons_succ] at hs
            refine Z.lb 1 rfl ?_
            refine Z.lnil ?_
            refine Z.only [0, 1, 2, 11, 13, 18, 19, 20, 21] rfl ?_
            refine Z.nthen ?_
            refine Z.region ?_
            refine Z.lb 2 rfl ?_
            refine Z.l rfl rfl (by rfl) (Z.keepS hs) (Z.Yd.add rfl rfl (fun hG => Z.wi64 (by first | omega | (have hG' := Z.gh rfl hG; simp at hG'; omega)))) ?_
            refine Z.lb 1 rfl ?_
            refine Z.lnil ?_
            refine Z.only [0, 1, 2, 11, 13, 18, 19, 20] rfl ?_
            refine Z.nblock ?_
            refine Z.nthen ?_
            refine Z.region ?_
            refine Z.lb 1 rfl ?_
            refine Z.l rfl rfl (by rfl) (Z.keepS hs) (Z.Yd.add rfl rfl (fun hG => Z.wi64 (by first | omega | (have hG' := Z.gh rfl hG; simp at hG'; omega)))) ?_
            refine Z.lb 1 rfl ?_
            refine Z.lnil ?_
            refine Z.only [0, 1, 2, 11, 13, 18, 19, 20] rfl ?_
            refine Z.nthen ?_
            have e2 : ints .i64 (m1.b.take (k + 1)) = ints .i64 (m1.b.take k) ++ [.int .i64 (elt m1.b (k : Int))] := by
              rw [List.take_add_one, hb2]
              simp [ints]
            exact Z.again (k + 1, _) (by refine ⟨?_, ?_, ?_, ?_, ?_, ?_, ?_, ?_, trivial⟩ <;> (first | rfl | (refine Z.lookv rfl ?_; simp; done) | (refine Z.lookv rfl ?_; simp; omega))) ⟨by simp only; omega, by simp only; rw [e2]; exact hs⟩ (by simp only; omega)
            )
      · first
          | (exfalso; simp at hc11 <;> omega)
          | (
            (try simp at hc11)
            refine Z.exit ?_
            refine Z.xthen ?_
            refine Z.xthen ?_
            refine Z.xblock ?_
            refine Z.nthen ?_
            refine Z.seq ?_
            refine Z.region ?_
            obtain rfl : k = ls.length := by omega
            rw [List.take_of_length_le (by rw [hbl, hml]; exact Nat.le_refl _)] at hs
            obtain ⟨gB, cB, rfl, hcB⟩ := row_form hs (j := 0) rfl (by omega)
            refine Z.l rfl rfl (by rfl) (Z.keepS hs) (Z.Yd.pure rfl) ?_
            refine Z.lb 2 rfl ?_
            replace hs : SX.St w [] _ (bkE ga sva soa m1 ++ ([SX.Ent.row (.slice (some ⟨gB, 0, none⟩) ls.length cB) 3 1 ls.length (ints .i64 m1.b)] ++ bkE gb svb sob m1)) := hs.sel [4, 5, 6, 0, 1, 2, 3] (by decide)
            refine Z.le rfl trivial ?_
            refine Z.ZO.call rfl rfl (by rfl) rfl rfl Try.call18 rfl (wk25_div ga sva soa m1 size D nd cd dem (divV m1 size dem) _ hs.lend okm (hD.sx.lent hs) hdl rfl) ?_
            rintro v18_3 w18_3 ⟨oa, oc, rfl, hz⟩
            replace hs := hs.regain hz
            refine Z.lb 5 rfl ?_
            refine Z.lnil ?_
            refine Z.only [0, 1, 2, 11, 13, 18, 19, 23, 24] rfl ?_
            refine Z.nthen ?_
            refine Z.seq ?_
            refine Z.seq ?_
            refine Z.region ?_
            refine Z.lb 1 rfl ?_
            refine Z.le rfl trivial ?_
            refine Z.ZO.call rfl rfl (by rfl) rfl rfl Try.call15 rfl (bk_num _ _) ?_
            rintro v19_1 w19_1 ⟨rfl, hy⟩
            replace hs := hs.call hy
            clear hy
            try simp only [List.cons_append, List.nil_append, List.append_nil] at hs
            refine Z.lb 1 rfl ?_
            refine Z.lnil ?_
            refine Z.only [0, 1, 2, 11, 13, 18, 19, 23, 146] rfl ?_
            refine Z.nthen ?_
            refine Z.cond rfl (fun hc19 => ?_) (fun hc19 => ?_)
            · first
                | (exfalso; simp at hc19 <;> omega)
                | (
                  (try simp at hc19)
                  have hno : ¬ okD m1 size dem := fun h => by
                    rw [show divV m1 size dem = ({ m1 with b := (rounds m1 size dem 2).b }, (rounds m1 size dem 2).out, 0) from if_pos h] at hc19
                    exact hc19 rfl
                  have eD : divV m1 size dem = (m1, [], 2) := if_neg hno
                  have okd : (divV m1 size dem).1.ok := okm.div _ _
                  refine Z.seq ?_
                  refine Z.region ?_
                  refine Z.lb 1 rfl ?_
                  refine Z.l rfl rfl (by rfl) (Z.keepS hs) (Z.Yd.lenS rfl Try.underlying28) ?_
                  refine Z.lb 2 rfl ?_
                  refine Z.yes (s := 150) (b := true) rfl ((by simp [eD])) rfl ?_
                  refine Z.lb 2 rfl ?_
                  refine Z.yes (s := 150) (b := true) rfl rfl rfl ?_
                  refine Z.le rfl (by exact ⟨rfl, trivial⟩) ?_
                  refine Z.ZO.call rfl rfl (by rfl) rfl rfl Try.call16 rfl (bk_same ga gb (divV m1 size dem).1 m1 _ (hs.bkR (sv := sva) (so := soa) (fun e he ↦ by simp [he])) (hs.bkR (sv := svb) (so := sob) (fun e he ↦ by simp [he])) okd okm) ?_
                  rintro v20_6 w20_6 ⟨rfl, hy⟩
                  replace hs := hs.call hy
                  clear hy
                  try simp only [List.cons_append, List.nil_append, List.append_nil] at hs
                  refine Z.l rfl rfl (by rfl) (Z.keepS hs) (Z.Yd.pickT rfl rfl) ?_
                  refine Z.lb 1 rfl ?_
                  refine Z.yes (s := 155) (b := true) rfl ((by simp [eD])) rfl ?_
                  refine Z.le rfl (by exact ⟨rfl, trivial⟩) ?_
                  refine Z.ZO.call rfl rfl (by rfl) rfl rfl Try.call8 rfl (works25 _) ?_
                  rintro v20_9 w20_9 ⟨rfl, hy⟩
                  replace hs := hs.call hy
                  clear hy
                  try simp only [List.cons_append, List.nil_append, List.append_nil] at hs
                  refine Z.l rfl rfl (by rfl) (Z.keepS hs) (Z.Yd.pickT rfl rfl) ?_
                  refine Z.lb 1 rfl ?_
                  refine Z.lnil ?_
                  refine Z.only [10] rfl ?_
                  refine Z.nthen ?_
                  refine Z.ret ?_
                  repeat (first | refine Z.rthen ?_ | refine Z.rblock ?_ | refine Z.rscope ?_)
                  -- ret#0
                  refine Z.out1 (by exact ⟨rfl, trivial⟩) ?_
                  exact ⟨_, rfl, rfl, hs.sub (List.nil_sublist _)⟩
                  )
            · first
                | (exfalso; simp at hc19 <;> omega)
                | (
                  (try simp at hc19)
                  have hD1 : okD m1 size dem := by
                    refine Decidable.byContradiction fun h => ?_
                    rw [show divV m1 size dem = (m1, [], 2) from if_neg h] at hc19
                    simp at hc19
                  have hR2 := rounds_ok okm hD1 2
                  have hsum := rounds_all okm hD1
                  have hgu := fun hb i (hi : i < m1.l.length) => rounds_guar (i := i) okm hD1 hb hi
                  have okd : (divV m1 size dem).1.ok := okm.div _ _
                  have eD : divV m1 size dem = ({ m1 with b := (rounds m1 size dem 2).b }, (rounds m1 size dem 2).out, 0) := if_pos hD1
                  have e1 : (divV m1 size dem).2.1 = (rounds m1 size dem 2).out := by rw [eD]
                  have e2 : (divV m1 size dem).1.b = (rounds m1 size dem 2).b := by rw [eD]
                  have e3 : (divV m1 size dem).1.l = ls := by rw [eD]; exact hml
                  have hdl2 : dem.length = ls.length := by rw [hD1.2.1, hml]
                  have hdem : ∀ i : Nat, i < ls.length → 0 ≤ elt dem (i : Int) ∧ elt dem (i : Int) ≤ 16777216 := fun i hi => hD1.2.2.elt (by omega)
                  have hout : ∀ i : Nat, i < ls.length → 0 ≤ elt (divV m1 size dem).2.1 (i : Int) ∧ elt (divV m1 size dem).2.1 (i : Int) ≤ elt dem (i : Int) := fun i hi => by rw [e1]; exact hR2.og i (by rw [hml]; exact hi)
                  have hbk : ∀ i : Nat, i < ls.length → 0 ≤ elt (divV m1 size dem).1.b (i : Int) ∧ elt (divV m1 size dem).1.b (i : Int) ≤ elt m1.b (i : Int) := fun i hi => by rw [e2]; exact hR2.bg i (by rw [hml]; exact hi)
                  have hol : (divV m1 size dem).2.1.length = ls.length := by rw [e1, hR2.ol, hml]
                  rw [hml] at hsum hgu
                  have hgu2 : sm m1.b ls.length ≤ size → ∀ i : Nat, i < ls.length → min (elt dem (i : Int)) (elt m1.b (i : Int)) ≤ elt (divV m1 size dem).2.1 (i : Int) := fun hb i hi => by rw [e1]; exact hgu hb i hi
                  rw [← e1] at hsum
                  generalize (divV m1 size dem).2.1 = out at hs hout hol hsum hgu2 ⊢
                  generalize (divV m1 size dem).1 = m2 at hs okd e3 hbk ⊢
                  rw [hol] at hs ⊢
                  obtain ⟨bd, od, rfl, hbd0, hdx⟩ := Z.Sl.some hD (by rw [ints_length]; omega)
                  obtain ⟨gO, cO, eO, hcO, -⟩ := row_form hs (j := 0) rfl (by omega)
                  simp only [Value.slice.injEq] at eO
                  obtain ⟨rfl, -, rfl⟩ := eO
                  refine Z.skip ?_
                  refine Z.nthen ?_
                  refine Z.seq ?_
                  refine Z.seq ?_
                  refine Z.region ?_
                  refine Z.lb 1 rfl ?_
                  refine Z.l rfl rfl (by rfl) (Z.keepS hs) (Z.Yd.lenS rfl Try.underlying28) ?_
                  refine Z.lb 1 rfl ?_
                  refine Z.l rfl rfl (by rfl) (Z.keepS hs) (Z.Yd.lenS rfl Try.underlying22) ?_
                  refine Z.lb 3 rfl ?_
                  refine Z.l rfl rfl (by rfl) (Z.keepS hs) (Z.Yd.lenS rfl Try.underlying28) ?_
                  refine Z.lb 1 rfl ?_
                  refine Z.l rfl rfl (by rfl) (Z.keepS hs) (Z.Yd.lenS rfl Try.underlying22) ?_
                  refine Z.lb 2 rfl ?_
                  refine Z.lnil ?_
                  refine Z.only [0, 1, 2, 11, 18, 19, 23, 169] rfl ?_
                  refine Z.nthen ?_
                  refine Z.cond rfl (fun h => absurd h (by simp; omega)) (fun hc21 => ?_)
                  refine Z.skip ?_
                  refine Z.nthen ?_
                  refine Z.seq ?_
                  refine Z.region ?_
                  refine Z.lb 2 rfl ?_
                  refine Z.lnil ?_
                  refine Z.only [0, 1, 2, 11, 18, 19, 23, 25, 26] rfl ?_
                  refine Z.nthen ?_
                  refine Z.seq ?_
                  refine Z.seq ?_
                  refine Z.region ?_
                  refine Z.lb 1 rfl ?_
                  refine Z.lnil ?_
                  refine Z.only [0, 1, 2, 11, 18, 19, 23, 25, 26, 27] rfl ?_
                  refine Z.nthen ?_
                  refine Z.block ?_
                  refine Z.loopk (ι := Nat) [0, 1, 2, 11, 18, 19, 23] rfl (fun x => [(25, [], .int .i64 (sm out x)), (26, [], .int .i64 (sm dem x)), (27, [], .int .i64 (x : Int))]) (fun x wr => x ≤ ls.length ∧ SX.St w [] wr (SX.Ent.row (.slice (some ⟨gO, 0, none⟩) ls.length oc) 3 1 ls.length (ints .i64 out) :: (bkE ga sva soa m2 ++ (SX.Ent.row (.slice (some ⟨gB, 0, none⟩) ls.length cB) 3 1 ls.length (ints .i64 m1.b) :: bkE gb svb sob m1)))) (fun x => ls.length - x) 0 (by refine ⟨?_, ?_, ?_, trivial⟩ <;> (first | rfl | (refine Z.lookv rfl ?_; simp; done) | (refine Z.lookv rfl ?_; simp; omega))) ⟨Nat.zero_le _, hs⟩ ?_
                  clear hs
                  rintro k w25 ⟨hk, hs⟩
                  refine Z.only [0, 1, 2, 11, 18, 19, 23, 25, 26, 27] rfl ?_
                  refine Z.seq ?_
                  refine Z.seq ?_
                  refine Z.region ?_
                  refine Z.lb 2 rfl ?_
                  refine Z.l rfl rfl (by rfl) (Z.keepS hs) (Z.Yd.lenS rfl Try.underlying22) ?_
                  refine Z.lb 1 rfl ?_
                  refine Z.lnil ?_
                  refine Z.only [0, 1, 2, 11, 18, 19, 23, 25, 26, 27, 173] rfl ?_
                  refine Z.nthen ?_
                  refine Z.cond rfl (fun hc25 => ?_) (fun hc25 => ?_)
                  · first
                      | (exfalso; simp at hc25 <;> omega)
                      | (
                        (try simp at hc25)
                        have hlt : k < ls.length := by omega
                        obtain ⟨x, hxk⟩ : ∃ x, ls[k]? = some x := ⟨_, List.getElem?_eq_getElem hlt⟩
                        have hxk2 : m2.l[k]? = some x := by rw [e3]; exact hxk
                        have q1 := hout k hlt
                        have q2 := hbk k hlt
                        have q3 := hdem k hlt
                        have q4 : sm m1.b ls.length ≤ size → min (elt dem (k : Int)) (elt m1.b (k : Int)) ≤ elt out (k : Int) := fun h => hgu2 h k hlt
                        have s1 := sm_le (l := dem) (c := 16777216) (k := k) fun i hi => (hdem i (by omega)).2
                        have s2 := sm_ge (l := dem) (k := k) fun i hi => (hdem i (by omega)).1
                        have s3 := sm_ge (l := out) (k := k) fun i hi => (hout i (by omega)).1
                        have s4 := sm_mono (l := out) (l' := dem) (k := k) fun i hi => (hout i (by omega)).2
                        have hbl2 : m1.b.length = ls.length := by rw [hbl, hml]
                        obtain ⟨bb, off, rfl, hb0, hx2⟩ := Z.Sl.some hx (by rw [flat_len lg_len]; omega)
                        refine Z.skip ?_
                        refine Z.nthen ?_
                        refine Z.seq ?_
                        refine Z.block ?_
                        refine Z.seq ?_
                        refine Z.region ?_
                        refine Z.lb 3 rfl ?_
                        refine Z.l rfl rfl (by rfl) (Z.keepS hs) (Z.Yd.elem rfl rfl Try.underlying22 Try.sizeOf38 (fun hG => ⟨(by first | omega | (have hG' := Z.gh rfl hG; simp at hG'; omega)), (by first | omega | (have hG' := Z.gh rfl hG; simp at hG'; omega))⟩)) ?_
                        refine Z.l rfl rfl (by rfl) (Z.keepS hs) (Z.Yd.fieldA (m := 0) rfl (by kernel_rfl)) ?_
                        refine Z.l rfl rfl (by rfl) (Z.keepS hs) (Z.Yd.load rfl Try.isAgg3 (fun _ => Z.cellXf hx2.sx lg_len hxk rfl)) ?_
                        refine Z.le rfl trivial ?_
                        refine Z.ZO.call rfl rfl (by rfl) rfl rfl Try.call17 rfl (bk_levAt ga m2 k x _ (hs.bkR (sv := sva) (so := soa) (fun e he ↦ by simp [he])) okd (by rw [e3]; exact hlt) hxk2) ?_
                        rintro v27_6 w27_6 ⟨rfl, hy⟩
                        replace hs := hs.call hy
                        clear hy
                        try simp only [List.cons_append, List.nil_append, List.append_nil] at hs
                        refine Z.lb 5 rfl ?_
                        refine Z.lnil ?_
                        refine Z.only [0, 1, 2, 11, 18, 19, 23, 25, 26, 27, 28, 29] rfl ?_
                        refine Z.nthen ?_
                        refine Z.seq ?_
                        refine Z.seq ?_
                        refine Z.drawK (fun _ => true) mixed hs ?_
                        clear hs; intro wd28 hs
                        refine Z.tb [0, 1] (by kernel_rfl) rfl ⟨_, hs, by first | (simp; done) | exact fun e he => List.mem_append_right _ he⟩ rfl ?_
                        refine Z.t 2 rfl rfl rfl (by rfl) (by kernel_rfl) ⟨_, hs, by first | (simp; done) | exact fun e he => List.mem_append_right _ he⟩ (Z.Yd.elem rfl rfl Try.underlying28 Try.sizeOf3 (fun hG => ⟨(by first | omega | (have hG' := Z.gh rfl hG; simp at hG'; omega)), (by first | omega | (have hG' := Z.gh rfl hG; simp at hG'; omega))⟩)) ?_
                        refine Z.t 3 rfl rfl rfl (by rfl) (by kernel_rfl) ⟨_, hs, by first | (simp; done) | exact fun e he => List.mem_append_right _ he⟩ (Z.Yd.load rfl Try.isAgg3 (fun _ => Z.cellR (by first | ((repeat (first | exact List.mem_cons_self | refine List.mem_cons_of_mem _ ?_ | refine List.mem_append_right _ ?_)); done) | fail) (Z.ints_at (by omega) (by omega)))) ?_
                        refine Z.tb [4, 5, 6, 7] (by kernel_rfl) rfl ⟨_, hs, by first | (simp; done) | exact fun e he => List.mem_append_right _ he⟩ rfl ?_
                        refine Z.t 8 rfl rfl rfl (by rfl) (by kernel_rfl) ⟨_, hs, by first | (simp; done) | exact fun e he => List.mem_append_right _ he⟩ (Z.Yd.elem rfl rfl Try.underlying28 Try.sizeOf3 (fun hG => ⟨(by first | omega | (have hG' := Z.gh rfl hG; simp at hG'; omega)), (by first | omega | (have hG' := Z.gh rfl hG; simp at hG'; omega))⟩)) ?_
                        refine Z.t 9 rfl rfl rfl (by rfl) (by kernel_rfl) ⟨_, hs, by first | (simp; done) | exact fun e he => List.mem_append_right _ he⟩ (Z.Yd.load rfl Try.isAgg3 (fun _ => Z.cellR (by first | ((repeat (first | exact List.mem_cons_self | refine List.mem_cons_of_mem _ ?_ | refine List.mem_append_right _ ?_)); done) | fail) (Z.ints_at (by omega) (by omega)))) ?_
                        refine Z.tb [10, 11] (by kernel_rfl) rfl ⟨_, hs, by first | (simp; done) | exact fun e he => List.mem_append_right _ he⟩ rfl ?_
                        refine Z.t 12 rfl rfl rfl (by rfl) (by kernel_rfl) ⟨_, hs, by first | (simp; done) | exact fun e he => List.mem_append_right _ he⟩ (Z.Yd.elem rfl rfl Try.underlying28 Try.sizeOf3 (fun hG => ⟨(by first | omega | (have hG' := Z.gh rfl hG; simp at hG'; omega)), (by first | omega | (have hG' := Z.gh rfl hG; simp at hG'; omega))⟩)) ?_
                        refine Z.t 13 rfl rfl rfl (by rfl) (by kernel_rfl) ⟨_, hs, by first | (simp; done) | exact fun e he => List.mem_append_right _ he⟩ (Z.Yd.load rfl Try.isAgg3 (fun _ => Z.cellS hdx rfl (by omega) (by omega))) ?_
                        refine Z.tb [14, 15, 16, 17, 18, 19, 20, 21, 22] (by kernel_rfl) rfl ⟨_, hs, by first | (simp; done) | exact fun e he => List.mem_append_right _ he⟩ rfl ?_
                        refine Z.t 23 rfl rfl rfl (by rfl) (by kernel_rfl) ⟨_, hs, by first | (simp; done) | exact fun e he => List.mem_append_right _ he⟩ (Z.Yd.elem rfl rfl Try.underlying28 Try.sizeOf3 (fun hG => ⟨(by first | omega | (have hG' := Z.gh rfl hG; simp at hG'; omega)), (by first | omega | (have hG' := Z.gh rfl hG; simp at hG'; omega))⟩)) ?_
                        refine Z.t 24 rfl rfl rfl (by rfl) (by kernel_rfl) ⟨_, hs, by first | (simp; done) | exact fun e he => List.mem_append_right _ he⟩ (Z.Yd.load rfl Try.isAgg3 (fun _ => Z.cellR (by first | ((repeat (first | exact List.mem_cons_self | refine List.mem_cons_of_mem _ ?_ | refine List.mem_append_right _ ?_)); done) | fail) (Z.ints_at (by omega) (by omega)))) ?_
                        refine Z.tb [25, 26] (by kernel_rfl) rfl ⟨_, hs, by first | (simp; done) | exact fun e he => List.mem_append_right _ he⟩ rfl ?_
                        refine Z.t 27 rfl rfl rfl (by rfl) (by kernel_rfl) ⟨_, hs, by first | (simp; done) | exact fun e he => List.mem_append_right _ he⟩ (Z.Yd.elem rfl rfl Try.underlying28 Try.sizeOf3 (fun hG => ⟨(by first | omega | (have hG' := Z.gh rfl hG; simp at hG'; omega)), (by first | omega | (have hG' := Z.gh rfl hG; simp at hG'; omega))⟩)) ?_
                        refine Z.t 28 rfl rfl rfl (by rfl) (by kernel_rfl) ⟨_, hs, by first | (simp; done) | exact fun e he => List.mem_append_right _ he⟩ (Z.Yd.load rfl Try.isAgg3 (fun _ => Z.cellS hdx rfl (by omega) (by omega))) ?_
                        refine Z.tb [29, 30] (by kernel_rfl) rfl ⟨_, hs, by first | (simp; done) | exact fun e he => List.mem_append_right _ he⟩ rfl ?_
                        refine Z.t 31 rfl rfl rfl (by rfl) (by kernel_rfl) ⟨_, hs, by first | (simp; done) | exact fun e he => List.mem_append_right _ he⟩ (Z.Yd.elem rfl rfl Try.underlying28 Try.sizeOf3 (fun hG => ⟨(by first | omega | (have hG' := Z.gh rfl hG; simp at hG'; omega)), (by first | omega | (have hG' := Z.gh rfl hG; simp at hG'; omega))⟩)) ?_
                        refine Z.t 32 rfl rfl rfl (by rfl) (by kernel_rfl) ⟨_, hs, by first | (simp; done) | exact fun e he => List.mem_append_right _ he⟩ (Z.Yd.load rfl Try.isAgg3 (fun _ => Z.cellR (by first | ((repeat (first | exact List.mem_cons_self | refine List.mem_cons_of_mem _ ?_ | refine List.mem_append_right _ ?_)); done) | fail) (Z.ints_at (by omega) (by omega)))) ?_
                        refine Z.t 33 rfl rfl rfl (by rfl) (by kernel_rfl) ⟨_, hs, by first | (simp; done) | exact fun e he => List.mem_append_right _ he⟩ (Z.Yd.min rfl rfl) ?_
                        refine Z.tb [34, 35, 36, 37, 38, 39, 40, 41, 42, 43, 44, 45, 46, 47, 48] (by kernel_rfl) rfl ⟨_, hs, by first | (simp; done) | exact fun e he => List.mem_append_right _ he⟩ rfl ?_
                        refine Z.t 49 rfl rfl rfl (by rfl) (by kernel_rfl) ⟨_, hs, by first | (simp; done) | exact fun e he => List.mem_append_right _ he⟩ (Z.Yd.elem rfl rfl Try.underlying28 Try.sizeOf3 (fun hG => ⟨(by first | omega | (have hG' := Z.gh rfl hG; simp at hG'; omega)), (by first | omega | (have hG' := Z.gh rfl hG; simp at hG'; omega))⟩)) ?_
                        refine Z.t 50 rfl rfl rfl (by rfl) (by kernel_rfl) ⟨_, hs, by first | (simp; done) | exact fun e he => List.mem_append_right _ he⟩ (Z.Yd.load rfl Try.isAgg3 (fun _ => Z.cellR (by first | ((repeat (first | exact List.mem_cons_self | refine List.mem_cons_of_mem _ ?_ | refine List.mem_append_right _ ?_)); done) | fail) (Z.ints_at (by omega) (by omega)))) ?_
                        refine Z.tb [51, 52] (by kernel_rfl) rfl ⟨_, hs, by first | (simp; done) | exact fun e he => List.mem_append_right _ he⟩ rfl ?_
                        refine Z.td (by rfl) (by kernel_rfl) ?_
                        refine Z.only [0, 1, 2, 11, 18, 19, 23, 25, 26, 27, 238] rfl ?_
                        refine Z.nthen ?_
                        refine Z.cond rfl (fun h => absurd h (by simp; omega)) (fun hc28 => ?_)
                        refine Z.skip ?_
                        refine Z.nthen ?_
                        refine Z.drawK (fun _ => true) mixed hs ?_
                        clear hs; intro wd30 hs
                        refine Z.tb [0, 1, 2] (by kernel_rfl) rfl ⟨_, hs, by first | (simp; done) | exact fun e he => List.mem_append_right _ he⟩ rfl ?_
                        refine Z.t 3 rfl rfl rfl (by rfl) (by kernel_rfl) ⟨_, hs, by first | (simp; done) | exact fun e he => List.mem_append_right _ he⟩ (Z.Yd.elem rfl rfl Try.underlying28 Try.sizeOf3 (fun hG => ⟨(by first | omega | (have hG' := Z.gh rfl hG; simp at hG'; omega)), (by first | omega | (have hG' := Z.gh rfl hG; simp at hG'; omega))⟩)) ?_
                        refine Z.t 4 rfl rfl rfl (by rfl) (by kernel_rfl) ⟨_, hs, by first | (simp; done) | exact fun e he => List.mem_append_right _ he⟩ (Z.Yd.load rfl Try.isAgg3 (fun _ => Z.cellR (by first | ((repeat (first | exact List.mem_cons_self | refine List.mem_cons_of_mem _ ?_ | refine List.mem_append_right _ ?_)); done) | fail) (Z.ints_at (by omega) (by omega)))) ?_
                        refine Z.t 5 rfl rfl rfl (by rfl) (by kernel_rfl) ⟨_, hs, by first | (simp; done) | exact fun e he => List.mem_append_right _ he⟩ (Z.Yd.add rfl rfl (fun hG => Z.wi64 (by first | omega | (have hG' := Z.gh rfl hG; simp at hG'; omega)))) ?_
                        refine Z.tb [6, 7, 8] (by kernel_rfl) rfl ⟨_, hs, by first | (simp; done) | exact fun e he => List.mem_append_right _ he⟩ rfl ?_
                        refine Z.t 9 rfl rfl rfl (by rfl) (by kernel_rfl) ⟨_, hs, by first | (simp; done) | exact fun e he => List.mem_append_right _ he⟩ (Z.Yd.elem rfl rfl Try.underlying28 Try.sizeOf3 (fun hG => ⟨(by first | omega | (have hG' := Z.gh rfl hG; simp at hG'; omega)), (by first | omega | (have hG' := Z.gh rfl hG; simp at hG'; omega))⟩)) ?_
                        refine Z.t 10 rfl rfl rfl (by rfl) (by kernel_rfl) ⟨_, hs, by first | (simp; done) | exact fun e he => List.mem_append_right _ he⟩ (Z.Yd.load rfl Try.isAgg3 (fun _ => Z.cellS hdx rfl (by omega) (by omega))) ?_
                        refine Z.t 11 rfl rfl rfl (by rfl) (by kernel_rfl) ⟨_, hs, by first | (simp; done) | exact fun e he => List.mem_append_right _ he⟩ (Z.Yd.add rfl rfl (fun hG => Z.wi64 (by first | omega | (have hG' := Z.gh rfl hG; simp at hG'; omega)))) ?_
                        refine Z.tb [12, 13] (by kernel_rfl) rfl ⟨_, hs, by first | (simp; done) | exact fun e he => List.mem_append_right _ he⟩ rfl ?_
                        refine Z.td (by rfl) (by kernel_rfl) ?_
                        refine Z.only [0, 1, 2, 11, 18, 19, 23, 25, 26, 27] rfl ?_
                        refine Z.nblock ?_
                        refine Z.nthen ?_
                        refine Z.region ?_
                        refine Z.lb 1 rfl ?_
                        refine Z.l rfl rfl (by rfl) (Z.keepS hs) (Z.Yd.add rfl rfl (fun hG => Z.wi64 (by first | omega | (have hG' := Z.gh rfl hG; simp at hG'; omega)))) ?_
                        refine Z.lb 1 rfl ?_
                        refine Z.lnil ?_
                        refine Z.only [0, 1, 2, 11, 18, 19, 23, 25, 26, 27] rfl ?_
                        refine Z.nthen ?_
                        exact Z.again (k + 1) (by refine ⟨?_, ?_, ?_, ?_, ?_, ?_, ?_, ?_, ?_, ?_, trivial⟩ <;> (first | rfl | (refine Z.lookv rfl ?_; simp; done) | (refine Z.lookv rfl ?_; simp; omega))) ⟨by omega, hs⟩ (by omega)
                        )
                  · first
                      | (exfalso; simp at hc25 <;> omega)
                      | (
                        (try simp at hc25)
                        refine Z.exit ?_
                        refine Z.xthen ?_
                        refine Z.xthen ?_
                        refine Z.xblock ?_
                        refine Z.nthen ?_
                        refine Z.seq ?_
                        refine Z.region ?_
                        obtain rfl : k = ls.length := by omega
                        refine Z.l rfl rfl (by rfl) (Z.keepS hs) (Z.Yd.pure rfl) ?_
                        refine Z.lb 2 rfl ?_
                        refine Z.l rfl rfl (by rfl) (Z.keepS hs) (Z.Yd.min rfl rfl) ?_
                        refine Z.lb 2 rfl ?_
                        refine Z.yes (s := 256) (b := true) rfl ((by simp [hsum])) rfl ?_
                        refine Z.le rfl (by exact ⟨rfl, trivial⟩) ?_
                        refine Z.ZO.call rfl rfl (by rfl) rfl rfl Try.call8 rfl (works25 _) ?_
                        rintro v31_6 w31_6 ⟨rfl, hy⟩
                        replace hs := hs.call hy
                        clear hy
                        try simp only [List.cons_append, List.nil_append, List.append_nil] at hs
                        refine Z.l rfl rfl (by rfl) (Z.keepS hs) (Z.Yd.pickT rfl rfl) ?_
                        refine Z.lb 1 rfl ?_
                        refine Z.lnil ?_
                        refine Z.only [10] rfl ?_
                        refine Z.nthen ?_
                        refine Z.ret ?_
                        -- ret#1
                        refine Z.out1 (by exact ⟨rfl, trivial⟩) ?_
                        exact ⟨_, rfl, rfl, hs.sub (List.nil_sublist _)⟩
                        )
                  )
            )
    · have hn10 := hset.1
      refine Z.enter Try.func4 rfl Try.ntmps4 rfl rfl ?_
      refine Z.seq ?_
      refine Z.region ?_
      refine Z.lb 1 rfl ?_
      refine Z.lnil ?_
      refine Z.only [0, 1, 2, 3, 4] rfl ?_
      refine Z.nthen ?_
      refine Z.seq ?_
      refine Z.seq ?_
      refine Z.region ?_
      refine Z.lb 1 rfl ?_
      refine Z.l rfl rfl (by rfl) (Z.keepS hs) (Z.Yd.lenS rfl Try.underlying22) ?_
      refine Z.lb 2 rfl ?_
      refine Z.yes (s := 33) (b := false) rfl ((by simp; omega)) rfl ?_
      refine Z.lb 1 rfl ?_
      refine Z.yes (s := 33) (b := false) rfl rfl rfl ?_
      refine Z.le rfl (by exact ⟨rfl, trivial⟩) ?_
      refine Z.ZO.call rfl rfl (by rfl) rfl rfl Try.call13 rfl (rv_valid A n c ls _ hx hl) ?_
      rintro v1_5 w1_5 ⟨rfl, hy⟩
      replace hs := hs.call hy
      clear hy
      try simp only [List.cons_append, List.nil_append, List.append_nil] at hs
      refine Z.lb 1 rfl ?_
      refine Z.yes (s := 33) (b := false) rfl rfl rfl ?_
      refine Z.l rfl rfl (by rfl) (Z.keepS hs) (Z.Yd.pickF rfl rfl) ?_
      refine Z.lb 16 rfl ?_
      refine Z.lnil ?_
      refine Z.only [0, 1, 2, 3, 4, 53] rfl ?_
      refine Z.nthen ?_
      refine Z.cond rfl (fun hc1 => ?_) (fun h => absurd h (by simp [hset]; omega))
      refine Z.seq ?_
      refine Z.region ?_
      refine Z.le rfl trivial ?_
      refine Z.ZO.call rfl rfl (by rfl) rfl rfl Try.call8 rfl (works25 _) ?_
      rintro v2_0 w2_0 ⟨rfl, hy⟩
      replace hs := hs.call hy
      clear hy
      try simp only [List.cons_append, List.nil_append, List.append_nil] at hs
      refine Z.lb 1 rfl ?_
      refine Z.lnil ?_
      refine Z.only [10] rfl ?_
      refine Z.nthen ?_
      refine Z.ret ?_
      repeat (first | refine Z.rthen ?_ | refine Z.rblock ?_ | refine Z.rscope ?_)
      -- ret#0
      refine Z.out1 (by exact ⟨rfl, trivial⟩) ?_
      exact ⟨_, rfl, rfl, hs.sub (List.nil_sublist _)⟩
  · by_cases hn : n ≤ 10
    · skip
      refine Z.enter Try.func4 rfl Try.ntmps4 rfl rfl ?_
      refine Z.seq ?_
      refine Z.region ?_
      refine Z.lb 1 rfl ?_
      refine Z.lnil ?_
      refine Z.only [0, 1, 2, 3, 4] rfl ?_
      refine Z.nthen ?_
      refine Z.seq ?_
      refine Z.seq ?_
      refine Z.region ?_
      refine Z.lb 1 rfl ?_
      refine Z.l rfl rfl (by rfl) (Z.keepS hs) (Z.Yd.lenS rfl Try.underlying22) ?_
      refine Z.lb 2 rfl ?_
      refine Z.yes (s := 33) (b := false) rfl ((by simp; omega)) rfl ?_
      refine Z.lb 1 rfl ?_
      refine Z.yes (s := 33) (b := false) rfl rfl rfl ?_
      refine Z.le rfl (by exact ⟨rfl, trivial⟩) ?_
      refine Z.ZO.call rfl rfl (by rfl) rfl rfl Try.call13 rfl (rv_valid A n c ls _ hx hl) ?_
      rintro v1_5 w1_5 ⟨rfl, hy⟩
      replace hs := hs.call hy
      clear hy
      try simp only [List.cons_append, List.nil_append, List.append_nil] at hs
      refine Z.lb 1 rfl ?_
      refine Z.yes (s := 33) (b := false) rfl rfl rfl ?_
      refine Z.l rfl rfl (by rfl) (Z.keepS hs) (Z.Yd.pickF rfl rfl) ?_
      refine Z.lb 16 rfl ?_
      refine Z.lnil ?_
      refine Z.only [0, 1, 2, 3, 4, 53] rfl ?_
      refine Z.nthen ?_
      refine Z.cond rfl (fun hc1 => ?_) (fun h => absurd h (by simp [hset]))
      refine Z.seq ?_
      refine Z.region ?_
      refine Z.le rfl trivial ?_
      refine Z.ZO.call rfl rfl (by rfl) rfl rfl Try.call8 rfl (works25 _) ?_
      rintro v2_0 w2_0 ⟨rfl, hy⟩
      replace hs := hs.call hy
      clear hy
      try simp only [List.cons_append, List.nil_append, List.append_nil] at hs
      refine Z.lb 1 rfl ?_
      refine Z.lnil ?_
      refine Z.only [10] rfl ?_
      refine Z.nthen ?_
      refine Z.ret ?_
      repeat (first | refine Z.rthen ?_ | refine Z.rblock ?_ | refine Z.rscope ?_)
      -- ret#0
      refine Z.out1 (by exact ⟨rfl, trivial⟩) ?_
      exact ⟨_, rfl, rfl, hs.sub (List.nil_sublist _)⟩
    · skip
      refine Z.enter Try.func4 rfl Try.ntmps4 rfl rfl ?_
      refine Z.seq ?_
      refine Z.region ?_
      refine Z.lb 1 rfl ?_
      refine Z.lnil ?_
      refine Z.only [0, 1, 2, 3, 4] rfl ?_
      refine Z.nthen ?_
      refine Z.seq ?_
      refine Z.seq ?_
      refine Z.region ?_
      refine Z.lb 1 rfl ?_
      refine Z.l rfl rfl (by rfl) (Z.keepS hs) (Z.Yd.lenS rfl Try.underlying22) ?_
      refine Z.lb 2 rfl ?_
      refine Z.yes (s := 33) (b := true) rfl ((by simp; omega)) rfl ?_
      refine Z.ls rfl rfl rfl (by rfl) ?_
      refine Z.ls rfl rfl rfl (by rfl) ?_
      refine Z.ls rfl rfl rfl (by rfl) ?_
      refine Z.l rfl rfl (by rfl) (Z.keepS hs) (Z.Yd.pickT rfl rfl) ?_
      refine Z.lb 16 rfl ?_
      refine Z.lnil ?_
      refine Z.only [0, 1, 2, 3, 4, 53] rfl ?_
      refine Z.nthen ?_
      refine Z.cond rfl (fun hc1 => ?_) (fun h => absurd h (by simp))
      refine Z.seq ?_
      refine Z.region ?_
      refine Z.le rfl trivial ?_
      refine Z.ZO.call rfl rfl (by rfl) rfl rfl Try.call8 rfl (works25 _) ?_
      rintro v2_0 w2_0 ⟨rfl, hy⟩
      replace hs := hs.call hy
      clear hy
      try simp only [List.cons_append, List.nil_append, List.append_nil] at hs
      refine Z.lb 1 rfl ?_
      refine Z.lnil ?_
      refine Z.only [10] rfl ?_
      refine Z.nthen ?_
      refine Z.ret ?_
      repeat (first | refine Z.rthen ?_ | refine Z.rblock ?_ | refine Z.rscope ?_)
      -- ret#0
      refine Z.out1 (by exact ⟨rfl, trivial⟩) ?_
      exact ⟨_, rfl, rfl, hs.sub (List.nil_sublist _)⟩
theorem bucketHolds_rd (a0 : Option Addr) (len0 cap0 : Nat) (a1 : Int) (a2 : Option Addr) (len2 cap2 : Nat) (a3 : Int) (a4 : Int) (w : World) (z0 : Rd Try.prog w 22 (Value.slice a0 len0 cap0).cells.toList) (z1 : Rd Try.prog w 3 (Value.int .i64 a1).cells.toList) (z2 : Rd Try.prog w 28 (Value.slice a2 len2 cap2).cells.toList) (z3 : Rd Try.prog w 3 (Value.int .i64 a3).cells.toList) (z4 : Rd Try.prog w 3 (Value.int .i64 a4).cells.toList) :
    Calls Try.prog 4 #[.slice a0 len0 cap0, .int .i64 a1, .slice a2 len2 cap2, .int .i64 a3, .int .i64 a4] w fun e w' => e = .returned (.bool true) ∧ Below w.heap.size w w' := by
  obtain ⟨ls, h1, h2, -, h3⟩ := rd_logicals (show Rd Try.prog w 22 [.slice a0 len0 cap0] by simpa [Value.cells] using z0)
  obtain ⟨l, k1, k2, k3, k4⟩ := rd_ints (show Rd Try.prog w 28 [.slice a2 len2 cap2] by simpa [Value.cells] using z2)
  refine (bucketHolds_walk a0 a2 len0 cap0 len2 cap2 a1 a3 a4 ls l w h3 h1 h2 k4 k1).mono ?_
  rintro e w' ⟨v, rfl, rfl, h⟩
  exact ⟨rfl, h.below⟩
end Go.Proofs.Ythdhobnkclddhaa

/- What every row needs. -/
namespace Go.Proofs.Ythdhobnkclddhaa
open Go.ChangeShapes Go.WideShapes Go.ChangeAt Go.RowKit
theorem pown : ownKnob Try.prog.godebug = none := by kernel_rfl
theorem plaidOut : laidOutB Try.prog = true := by kernel_rfl
end Go.Proofs.Ythdhobnkclddhaa
