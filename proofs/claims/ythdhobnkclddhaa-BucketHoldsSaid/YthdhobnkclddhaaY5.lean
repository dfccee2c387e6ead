/- Part 5 of the proofs that lead to the statement. -/
import Derived.Test.YthdhobnkclddhaaY4
/- Buckets: New. -/
namespace Go.Proofs.Ythdhobnkclddhaa
open Go.RowKit
set_option linter.unusedSimpArgs false
set_option linter.unusedVariables false
--newlaws

theorem bk_new1 (g : Nat) (x y : LgV) (w : World) (hc : Cel w g x.cells) :
    Calls Try.prog 31 #[.agg y.cells.toArray, .pointer (some ⟨g, 0, none⟩)] w (SX.Ret fun v w' => v = .bool (decide (y.id = x.id)) ∧ SX.St w [] w' []) := by
  have hs := SX.St.start w
  show Calls Try.prog 31 #[.agg #[.int .i64 y.id, .int .i64 y.pr, .int .i64 y.rt, .int .i64 y.dp, .int .i64 y.gr], _] w _
  refine Z.enter Try.func31 rfl Try.ntmps31 rfl rfl ?_
  refine Z.seq ?_
  refine Z.region ?_
  refine Z.le rfl trivial ?_
  refine Z.ZO.box rfl rfl (by rfl) rfl rfl hs ?_
  clear hs; intro g2 w2 hs
  refine Z.lb 1 rfl ?_
  refine Z.lnil ?_
  refine Z.only [1, 2] rfl ?_
  refine Z.nthen ?_
  refine Z.seq ?_
  refine Z.region ?_
  refine Z.l rfl rfl (by rfl) (Z.keepS hs) (Z.Yd.fieldA (m := 0) rfl (by kernel_rfl)) ?_
  refine Z.l rfl rfl (by rfl) (Z.keepS hs) (by first | exact Z.Yd.load rfl Try.isAgg3 (fun _ => Z.cellB (by first | ((repeat (first | exact List.mem_cons_self | refine List.mem_cons_of_mem _ ?_ | refine List.mem_append_right _ ?_)); done) | fail) rfl) | exact Z.Yd.load rfl Try.isAgg3 (fun _ => Z.cellO (by assumption) (by simp) (by assumption)) | fail "load 1.1") ?_
  refine Z.l rfl rfl (by rfl) (Z.keepS hs) (Z.Yd.fieldA (m := 0) rfl (by kernel_rfl)) ?_
  refine Z.l rfl rfl (by rfl) (Z.keepS hs) (Z.Yd.load rfl Try.isAgg3 (fun _ => Z.cellO hc.1 (by simp) (hc.2 0 _ rfl))) ?_
  refine Z.lb 2 rfl ?_
  refine Z.lnil ?_
  refine Z.only [3] rfl ?_
  refine Z.nthen ?_
  refine Z.ret ?_
  -- ret#0
  refine Z.out1 (by exact ⟨rfl, trivial⟩) ?_
  exact ⟨_, rfl, rfl, hs.sub (List.nil_sublist _)⟩
theorem bk_or (A : Option Addr) (c : Nat) (a b : Int) (w : World) (hx : Sl w A (ints .i64 [a, b])) :
    Calls Try.prog 34 #[.slice A 2 c] w (SX.Ret fun v w' => v = .int .i64 (if a ≠ 0 then a else b) ∧ SX.St w [] w' []) := by
  have hs := SX.St.start w
  obtain ⟨bb, off, rfl, hb0, hx2⟩ := Z.Sl.some hx (by simp [ints])
  refine Z.enter Try.func34 rfl Try.ntmps34 rfl rfl ?_
  refine Z.seq ?_
  refine Z.region ?_
  refine Z.lb 1 rfl ?_
  refine Z.lnil ?_
  refine Z.only [0] rfl ?_
  refine Z.nthen ?_
  refine Z.seq ?_
  refine Z.region ?_
  refine Z.lb 1 rfl ?_
  refine Z.lnil ?_
  refine Z.only [0, 3] rfl ?_
  refine Z.nthen ?_
  refine Z.seq ?_
  refine Z.seq ?_
  refine Z.region ?_
  refine Z.lb 1 rfl ?_
  refine Z.l rfl rfl (by rfl) (Z.keepS hs) (Z.Yd.lenS rfl Try.underlying28) ?_
  refine Z.lb 1 rfl ?_
  refine Z.lnil ?_
  refine Z.only [3, 6, 7, 8] rfl ?_
  refine Z.nthen ?_
  refine Z.block ?_
  refine Z.loopk (ι := Nat) [3, 6, 7] rfl (fun k => [(8, [], .int .i64 (k : Int))]) (fun k wr => (k ≤ 2 ∧ (0 < k → a = 0) ∧ (1 < k → b = 0)) ∧ SX.St w [] wr []) (fun k => 2 - k) 0 (by refine ⟨?_, trivial⟩ <;> (first | rfl | (refine Z.lookv rfl ?_; simp; done) | (refine Z.lookv rfl ?_; simp; omega))) ⟨⟨by omega, by omega, by omega⟩, hs⟩ ?_
  clear hs
  rintro i w1 ⟨⟨hi, h1, h2⟩, hs⟩
  refine Z.only [3, 6, 7, 8] rfl ?_
  refine Z.seq ?_
  refine Z.region ?_
  refine Z.lb 1 rfl ?_
  refine Z.lnil ?_
  refine Z.only [3, 6, 7, 8, 9] rfl ?_
  refine Z.nthen ?_
  refine Z.seq ?_
  refine Z.cond rfl (fun hc3 => ?_) (fun hc3 => ?_)
  · first
      | (exfalso; simp at hc3 <;> omega)
      | (
        (try simp at hc3)
        have hi2 : i = 0 ∨ i = 1 := by omega
        have hel : elt [a, b] (i : Int) = if i = 0 then a else b := by rcases hi2 with rfl | rfl <;> rfl
        refine Z.skip ?_
        refine Z.nthen ?_
        refine Z.seq ?_
        refine Z.block ?_
        refine Z.seq ?_
        refine Z.region ?_
        refine Z.l rfl rfl (by rfl) (Z.keepS hs) (Z.Yd.elem rfl rfl Try.underlying28 Try.sizeOf3 (fun hG => ⟨(by first | omega | (have hG' := Z.gh rfl hG; simp at hG'; omega)), (by first | omega | (have hG' := Z.gh rfl hG; simp at hG'; omega))⟩)) ?_
        refine Z.l rfl rfl (by rfl) (Z.keepS hs) (Z.Yd.load rfl Try.isAgg3 (fun hG => Z.cellS hx2 rfl (by omega) (by simp; omega))) ?_
        refine Z.lb 1 rfl ?_
        refine Z.lnil ?_
        refine Z.only [3, 5, 6, 7, 8] rfl ?_
        refine Z.nthen ?_
        refine Z.seq ?_
        refine Z.region ?_
        refine Z.lb 3 rfl ?_
        refine Z.lnil ?_
        refine Z.only [3, 5, 6, 7, 8, 14] rfl ?_
        refine Z.nthen ?_
        refine Z.cond rfl (fun hc5 => ?_) (fun hc5 => ?_)
        · first
            | (exfalso; simp at hc5 <;> omega)
            | (
              (try simp at hc5)
              refine Z.seq ?_
              refine Z.region ?_
              refine Z.lb 2 rfl ?_
              refine Z.lnil ?_
              refine Z.only [2] rfl ?_
              refine Z.nthen ?_
              refine Z.ret ?_
              repeat (first | refine Z.rthen ?_ | refine Z.rblock ?_ | refine Z.rscope ?_)
              -- ret#0
              refine Z.out1 (by exact ⟨rfl, trivial⟩) ?_
              refine ⟨_, rfl, ?_, hs⟩
              rcases hi2 with rfl | rfl
              · rw [hel] at *; simp_all
              · rw [hel] at *; have := h1 (by omega); simp_all
              )
        · first
            | (exfalso; simp at hc5 <;> omega)
            | (
              (try simp at hc5)
              refine Z.skip ?_
              refine Z.nblock ?_
              refine Z.nthen ?_
              refine Z.region ?_
              refine Z.l rfl rfl (by rfl) (Z.keepS hs) (Z.Yd.add rfl rfl (fun hG => Z.wi64 (by first | omega | (have hG' := Z.gh rfl hG; simp at hG'; omega)))) ?_
              refine Z.lb 1 rfl ?_
              refine Z.lnil ?_
              refine Z.only [3, 6, 7, 8] rfl ?_
              refine Z.nthen ?_
              refine Z.again (i + 1) (by refine ⟨?_, ?_, ?_, ?_, trivial⟩ <;> (first | rfl | (refine Z.lookv rfl ?_; simp; done) | (refine Z.lookv rfl ?_; simp; omega))) ⟨⟨by omega, ?_, ?_⟩, hs⟩ (by omega)
              · intro _
                rcases hi2 with rfl | rfl
                · simp_all
                · exact h1 (by omega)
              · intro _
                rcases hi2 with rfl | rfl
                · omega
                · simp_all
              )
        )
  · first
      | (exfalso; simp at hc3 <;> omega)
      | (
        (try simp at hc3)
        refine Z.exit ?_
        refine Z.xthen ?_
        refine Z.xthen ?_
        refine Z.xblock ?_
        refine Z.nthen ?_
        refine Z.seq ?_
        refine Z.region ?_
        refine Z.lb 2 rfl ?_
        refine Z.lnil ?_
        refine Z.only [2] rfl ?_
        refine Z.nthen ?_
        refine Z.ret ?_
        -- ret#1
        refine Z.out1 (by exact ⟨rfl, trivial⟩) ?_
        refine ⟨_, rfl, ?_, hs⟩
        rw [if_neg (by have := h1 (by omega); simp_all)]
        congr 1
        exact (h2 (by omega)).symm
        )
set_option maxRecDepth 100000 in
theorem bk_new2 (gb gk n c : Nat) (A : Option Addr) (so nw : Value) (ls : List LgV) (x y : Int) (w : World) (hb : Cel w gb [.pointer (some ⟨gk, 0, none⟩)]) (hk : Cel w gk [.slice A n c, so, nw])
    (hA : Sl w A ((ls.map fun x => (x, (0 : Int))).flatMap chC)) (hl : ls.length = n) (hset : okSet ls) (hx : ∃ i : Nat, i < n ∧ x = (i : Int)) (hy : ∃ i : Nat, i < n ∧ y = (i : Int)) :
    Calls Try.prog 33 #[.int .i64 x, .int .i64 y, .pointer (some ⟨gb, 0, none⟩)] w (SX.Ret fun v w' => (∃ z : Int, v = .int .i64 z ∧ (z < 0 ↔ key ls x < key ls y)) ∧ SX.St w [] w' []) := by
  obtain ⟨i, hi, rfl⟩ := hx
  obtain ⟨k, hk1, rfl⟩ := hy
  have hs := SX.St.start w
  obtain ⟨bb, off, rfl, hb0, hx2⟩ := Z.Sl.some hA (by rw [flat_len ch_len]; simp; omega)
  have ei : (ls.map fun x => (x, (0 : Int)))[i]? = some (ls[i]!, 0) := by rw [List.getElem?_map, getElem!_pos ls i (by omega)]; simp [List.getElem?_eq_getElem (show i < ls.length by omega)]
  have ek : (ls.map fun x => (x, (0 : Int)))[k]? = some (ls[k]!, 0) := by rw [List.getElem?_map, getElem!_pos ls k (by omega)]; simp [List.getElem?_eq_getElem (show k < ls.length by omega)]
  have o1 := hset.lg (i := i) (by omega)
  have o2 := hset.lg (i := k) (by omega)
  simp only [key, Int.toNat_natCast]
  generalize ls[i]! = a at *
  generalize ls[k]! = b at *
  obtain ⟨⟨a1, a2⟩, ⟨a3, a4⟩, -⟩ := o1
  obtain ⟨⟨b1, b2⟩, ⟨b3, b4⟩, -⟩ := o2
  have hone1 := ch_one (a, 0)
  have hone2 := ch_one (b, 0)
  refine Z.enter Try.func33 rfl Try.ntmps33 rfl rfl ?_
  refine Z.seq ?_
  refine Z.region ?_
  refine Z.lb 1 rfl ?_
  refine Z.lnil ?_
  refine Z.only [0, 1, 2] rfl ?_
  refine Z.nthen ?_
  refine Z.seq ?_
  refine Z.drawL [] (fun _ => true) mixed hs ?_
  clear hs; intro wd1 hs
  refine Z.t 0 rfl rfl rfl (by rfl) (by kernel_rfl) ⟨_, hs, by first | (simp; done) | exact fun e he => List.mem_append_right _ he⟩ (Z.Yd.load rfl Try.isAgg24 (fun _ => Z.cellO hb.1 (by simp) (hb.2 0 _ rfl))) ?_
  refine Z.t 1 rfl rfl rfl (by rfl) (by kernel_rfl) ⟨_, hs, by first | (simp; done) | exact fun e he => List.mem_append_right _ he⟩ (Z.Yd.nilc rfl rfl) ?_
  refine Z.t 2 rfl rfl rfl (by rfl) (by kernel_rfl) ⟨_, hs, by first | (simp; done) | exact fun e he => List.mem_append_right _ he⟩ (Z.Yd.fieldA (m := 0) rfl (by kernel_rfl)) ?_
  refine Z.t 3 rfl rfl rfl (by rfl) (by kernel_rfl) ⟨_, hs, by first | (simp; done) | exact fun e he => List.mem_append_right _ he⟩ (Z.Yd.load rfl Try.isAgg61 (fun _ => Z.cellO hk.1 (by simp) (hk.2 0 _ rfl))) ?_
  refine Z.tb [4] (by kernel_rfl) rfl ⟨_, hs, by first | (simp; done) | exact fun e he => List.mem_append_right _ he⟩ rfl ?_
  refine Z.t 5 rfl rfl rfl (by rfl) (by kernel_rfl) ⟨_, hs, by first | (simp; done) | exact fun e he => List.mem_append_right _ he⟩ (Z.Yd.elem rfl rfl Try.underlying61 Try.sizeOf72 (fun hG => ⟨(by first | omega | (have hG' := Z.gh rfl hG; simp at hG'; omega)), (by first | omega | (have hG' := Z.gh rfl hG; simp at hG'; omega))⟩)) ?_
  refine Z.t 6 rfl rfl rfl (by rfl) (by kernel_rfl) ⟨_, hs, by first | (simp; done) | exact fun e he => List.mem_append_right _ he⟩ (Z.Yd.loadA _ rfl Try.isAgg72 (fun _ W hK j u hu => Z.cellXq (enc := chC) hx2.sx ch_len ei hu W hK) (by exact Try.sizeOf72)) ?_
  refine Z.t 7 rfl rfl rfl (by rfl) (by kernel_rfl) ⟨_, hs, by first | (simp; done) | exact fun e he => List.mem_append_right _ he⟩ (Z.Yd.load rfl Try.isAgg24 (fun _ => Z.cellO hb.1 (by simp) (hb.2 0 _ rfl))) ?_
  refine Z.t 8 rfl rfl rfl (by rfl) (by kernel_rfl) ⟨_, hs, by first | (simp; done) | exact fun e he => List.mem_append_right _ he⟩ (Z.Yd.nilc rfl rfl) ?_
  refine Z.t 9 rfl rfl rfl (by rfl) (by kernel_rfl) ⟨_, hs, by first | (simp; done) | exact fun e he => List.mem_append_right _ he⟩ (Z.Yd.fieldA (m := 0) rfl (by kernel_rfl)) ?_
  refine Z.t 10 rfl rfl rfl (by rfl) (by kernel_rfl) ⟨_, hs, by first | (simp; done) | exact fun e he => List.mem_append_right _ he⟩ (Z.Yd.load rfl Try.isAgg61 (fun _ => Z.cellO hk.1 (by simp) (hk.2 0 _ rfl))) ?_
  refine Z.tb [11] (by kernel_rfl) rfl ⟨_, hs, by first | (simp; done) | exact fun e he => List.mem_append_right _ he⟩ rfl ?_
  refine Z.t 12 rfl rfl rfl (by rfl) (by kernel_rfl) ⟨_, hs, by first | (simp; done) | exact fun e he => List.mem_append_right _ he⟩ (Z.Yd.elem rfl rfl Try.underlying61 Try.sizeOf72 (fun hG => ⟨(by first | omega | (have hG' := Z.gh rfl hG; simp at hG'; omega)), (by first | omega | (have hG' := Z.gh rfl hG; simp at hG'; omega))⟩)) ?_
  refine Z.t 13 rfl rfl rfl (by rfl) (by kernel_rfl) ⟨_, hs, by first | (simp; done) | exact fun e he => List.mem_append_right _ he⟩ (Z.Yd.loadA _ rfl Try.isAgg72 (fun _ W hK j u hu => Z.cellXq (enc := chC) hx2.sx ch_len ek hu W hK) (by exact Try.sizeOf72)) ?_
  refine Z.fork2 14 15 rfl rfl rfl (by kernel_rfl) rfl rfl trivial trivial ?_ ?_
  · skip
    refine Z.ZO.alloc rfl rfl (by rfl) Try.zeroValue72 rfl hs ?_
    clear hs; intro g6 w6 hs
    refine Z.tk (Dn := fun _ => true) (i := 14) (fun _ => ⟨_, hs, by first | (simp; done) | exact fun e he => List.mem_append_right _ he⟩) ?_
    refine Z.tn 15 rfl rfl (by kernel_rfl) rfl trivial ?_
    refine Z.ZO.alloc rfl rfl (by rfl) Try.zeroValue72 rfl hs ?_
    clear hs; intro g7 w7 hs
    refine Z.tk (Dn := fun _ => true) (i := 15) (fun _ => ⟨_, hs, by first | (simp; done) | exact fun e he => List.mem_append_right _ he⟩) ?_
    refine Z.tn 16 rfl rfl (by kernel_rfl) rfl trivial ?_
    first | refine Z.ZO.storeA rfl rfl hs rfl rfl (by kernel_rfl) (by first | (simp [Value.oneCell']; done) | (refine Z.all_one ?_; assumption)) (by first | exact SX.at0 | exact SX.at1 | exact SX.at2 | exact SX.at3 | exact SX.at4 | exact SX.at5 | exact Z.at6 | exact Z.at7 | exact Z.at8 | exact Z.at9 | exact Z.at10 | exact Z.at11 | exact Z.at12) (by rfl) ?_ | refine Z.ZO.storeP rfl rfl hs rfl rfl (by kernel_rfl) (by first | (simp [Value.oneCell']; done) | (refine Z.all_one ?_; assumption)) (by first | exact SX.at0 | exact SX.at1 | exact SX.at2 | exact SX.at3 | exact SX.at4 | exact SX.at5 | exact Z.at6 | exact Z.at7 | exact Z.at8 | exact Z.at9 | exact Z.at10 | exact Z.at11 | exact Z.at12) (by first | decide | (simp; done) | (simp; omega)) ?_ | refine Z.ZO.storePR rfl rfl hs rfl rfl (by kernel_rfl) (by first | (simp [Value.oneCell']; done) | (refine Z.all_one ?_; assumption)) (by first | exact SX.at0 | exact SX.at1 | exact SX.at2 | exact SX.at3 | exact SX.at4 | exact SX.at5 | exact Z.at6 | exact Z.at7 | exact Z.at8 | exact Z.at9 | exact Z.at10 | exact Z.at11 | exact Z.at12) (by first | decide | (simp; done) | (simp; omega)) ?_
    clear hs; intro ws hs
    simp only [Nat.zero_add, Nat.add_zero, Nat.reduceAdd, Int.reduceToNat, Nat.reduceMul, List.set_cons_zero, List.set_cons_succ, List.setIfInBounds_toArray] at hs
    try simp only [Z.putL, Nat.zero_add] at hs
    refine Z.tk (Dn := fun _ => true) (i := 16) (fun _ => ⟨_, hs, by first | (simp; done) | exact fun e he => List.mem_append_right _ he⟩) ?_
    refine Z.tn 17 rfl rfl (by kernel_rfl) rfl trivial ?_
    first | refine Z.ZO.storeA rfl rfl hs rfl rfl (by kernel_rfl) (by first | (simp [Value.oneCell']; done) | (refine Z.all_one ?_; assumption)) (by first | exact SX.at0 | exact SX.at1 | exact SX.at2 | exact SX.at3 | exact SX.at4 | exact SX.at5 | exact Z.at6 | exact Z.at7 | exact Z.at8 | exact Z.at9 | exact Z.at10 | exact Z.at11 | exact Z.at12) (by rfl) ?_ | refine Z.ZO.storeP rfl rfl hs rfl rfl (by kernel_rfl) (by first | (simp [Value.oneCell']; done) | (refine Z.all_one ?_; assumption)) (by first | exact SX.at0 | exact SX.at1 | exact SX.at2 | exact SX.at3 | exact SX.at4 | exact SX.at5 | exact Z.at6 | exact Z.at7 | exact Z.at8 | exact Z.at9 | exact Z.at10 | exact Z.at11 | exact Z.at12) (by first | decide | (simp; done) | (simp; omega)) ?_ | refine Z.ZO.storePR rfl rfl hs rfl rfl (by kernel_rfl) (by first | (simp [Value.oneCell']; done) | (refine Z.all_one ?_; assumption)) (by first | exact SX.at0 | exact SX.at1 | exact SX.at2 | exact SX.at3 | exact SX.at4 | exact SX.at5 | exact Z.at6 | exact Z.at7 | exact Z.at8 | exact Z.at9 | exact Z.at10 | exact Z.at11 | exact Z.at12) (by first | decide | (simp; done) | (simp; omega)) ?_
    clear hs; intro ws hs
    simp only [Nat.zero_add, Nat.add_zero, Nat.reduceAdd, Int.reduceToNat, Nat.reduceMul, List.set_cons_zero, List.set_cons_succ, List.setIfInBounds_toArray] at hs
    try simp only [Z.putL, Nat.zero_add] at hs
    refine Z.tk (Dn := fun _ => true) (i := 17) (fun _ => ⟨_, hs, by first | (simp; done) | exact fun e he => List.mem_append_right _ he⟩) ?_
    refine Z.td (by rfl) (by kernel_rfl) ?_
    refine Z.only [6, 7] rfl ?_
    refine Z.nthen ?_
    refine Z.seq ?_
    refine Z.region ?_
    simp only [chC] at hs
    refine Z.l rfl rfl (by rfl) (Z.keepS hs) (Z.Yd.fieldA (m := 0) rfl (by kernel_rfl)) ?_
    refine Z.l rfl rfl (by rfl) (Z.keepS hs) (Z.Yd.fieldA (m := 1) rfl (by kernel_rfl)) ?_
    refine Z.l rfl rfl (by rfl) (Z.keepS hs) (by first | exact Z.Yd.load rfl Try.isAgg3 (fun _ => Z.cellB (by first | ((repeat (first | exact List.mem_cons_self | refine List.mem_cons_of_mem _ ?_ | refine List.mem_append_right _ ?_)); done) | fail) rfl) | exact Z.Yd.load rfl Try.isAgg3 (fun _ => Z.cellO (by assumption) (by simp) (by assumption)) | fail "load 2.2") ?_
    refine Z.l rfl rfl (by rfl) (Z.keepS hs) (Z.Yd.fieldA (m := 0) rfl (by kernel_rfl)) ?_
    refine Z.l rfl rfl (by rfl) (Z.keepS hs) (Z.Yd.fieldA (m := 1) rfl (by kernel_rfl)) ?_
    refine Z.l rfl rfl (by rfl) (Z.keepS hs) (by first | exact Z.Yd.load rfl Try.isAgg3 (fun _ => Z.cellB (by first | ((repeat (first | exact List.mem_cons_self | refine List.mem_cons_of_mem _ ?_ | refine List.mem_append_right _ ?_)); done) | fail) rfl) | exact Z.Yd.load rfl Try.isAgg3 (fun _ => Z.cellO (by assumption) (by simp) (by assumption)) | fail "load 2.5") ?_
    refine Z.l rfl rfl (by rfl) (Z.keepS hs) (Z.Yd.sub rfl rfl (fun hG => Z.wi64 (by first | omega | (have hG' := Z.gh rfl hG; simp at hG'; omega)))) ?_
    refine Z.l rfl rfl (by rfl) (Z.keepS hs) (Z.Yd.fieldA (m := 0) rfl (by kernel_rfl)) ?_
    refine Z.l rfl rfl (by rfl) (Z.keepS hs) (Z.Yd.fieldA (m := 0) rfl (by kernel_rfl)) ?_
    refine Z.l rfl rfl (by rfl) (Z.keepS hs) (by first | exact Z.Yd.load rfl Try.isAgg3 (fun _ => Z.cellB (by first | ((repeat (first | exact List.mem_cons_self | refine List.mem_cons_of_mem _ ?_ | refine List.mem_append_right _ ?_)); done) | fail) rfl) | exact Z.Yd.load rfl Try.isAgg3 (fun _ => Z.cellO (by assumption) (by simp) (by assumption)) | fail "load 2.9") ?_
    refine Z.l rfl rfl (by rfl) (Z.keepS hs) (Z.Yd.fieldA (m := 0) rfl (by kernel_rfl)) ?_
    refine Z.l rfl rfl (by rfl) (Z.keepS hs) (Z.Yd.fieldA (m := 0) rfl (by kernel_rfl)) ?_
    refine Z.l rfl rfl (by rfl) (Z.keepS hs) (by first | exact Z.Yd.load rfl Try.isAgg3 (fun _ => Z.cellB (by first | ((repeat (first | exact List.mem_cons_self | refine List.mem_cons_of_mem _ ?_ | refine List.mem_append_right _ ?_)); done) | fail) rfl) | exact Z.Yd.load rfl Try.isAgg3 (fun _ => Z.cellO (by assumption) (by simp) (by assumption)) | fail "load 2.12") ?_
    refine Z.l rfl rfl (by rfl) (Z.keepS hs) (Z.Yd.sub rfl rfl (fun hG => Z.wi64 (by first | omega | (have hG' := Z.gh rfl hG; simp at hG'; omega)))) ?_
    refine Z.le rfl trivial ?_
    refine Z.ZO.litL (T' := 3) [(0, 1), (1, 1)] [.int .i64 0, .int .i64 0] rfl rfl (by rfl) rfl rfl (by intro W; kernel_rfl) hs ?_
    clear hs; intro g36 w36 hs
    refine Z.le rfl trivial ?_
    refine Z.ZO.call rfl rfl (by rfl) rfl rfl Try.call34 rfl (bk_or _ _ (a.pr - b.pr) (a.id - b.id) _ (hs.blkSl (by first | ((repeat (first | exact List.mem_cons_self | refine List.mem_cons_of_mem _ ?_ | refine List.mem_append_right _ ?_)); done) | fail))) ?_
    rintro v2_15 w2_15 ⟨rfl, hy⟩
    replace hs := hs.call hy
    clear hy
    try simp only [List.cons_append, List.nil_append, List.append_nil] at hs
    refine Z.lb 1 rfl ?_
    refine Z.lnil ?_
    refine Z.only [5] rfl ?_
    refine Z.nthen ?_
    refine Z.ret ?_
    -- ret#0
    refine Z.out1 (by exact ⟨rfl, trivial⟩) ?_
    refine ⟨_, rfl, ⟨_, rfl, ?_⟩, hs.sub (List.nil_sublist _)⟩
    split <;> omega
  · skip
    refine Z.ZO.alloc rfl rfl (by rfl) Try.zeroValue72 rfl hs ?_
    clear hs; intro g7 w7 hs
    refine Z.tk (Dn := fun _ => true) (i := 15) (fun _ => ⟨_, hs, by first | (simp; done) | exact fun e he => List.mem_append_right _ he⟩) ?_
    refine Z.tn 14 rfl rfl (by kernel_rfl) rfl trivial ?_
    refine Z.ZO.alloc rfl rfl (by rfl) Try.zeroValue72 rfl hs ?_
    clear hs; intro g6 w6 hs
    refine Z.tk (Dn := fun _ => true) (i := 14) (fun _ => ⟨_, hs, by first | (simp; done) | exact fun e he => List.mem_append_right _ he⟩) ?_
    refine Z.tn 16 rfl rfl (by kernel_rfl) rfl trivial ?_
    first | refine Z.ZO.storeA rfl rfl hs rfl rfl (by kernel_rfl) (by first | (simp [Value.oneCell']; done) | (refine Z.all_one ?_; assumption)) (by first | exact SX.at0 | exact SX.at1 | exact SX.at2 | exact SX.at3 | exact SX.at4 | exact SX.at5 | exact Z.at6 | exact Z.at7 | exact Z.at8 | exact Z.at9 | exact Z.at10 | exact Z.at11 | exact Z.at12) (by rfl) ?_ | refine Z.ZO.storeP rfl rfl hs rfl rfl (by kernel_rfl) (by first | (simp [Value.oneCell']; done) | (refine Z.all_one ?_; assumption)) (by first | exact SX.at0 | exact SX.at1 | exact SX.at2 | exact SX.at3 | exact SX.at4 | exact SX.at5 | exact Z.at6 | exact Z.at7 | exact Z.at8 | exact Z.at9 | exact Z.at10 | exact Z.at11 | exact Z.at12) (by first | decide | (simp; done) | (simp; omega)) ?_ | refine Z.ZO.storePR rfl rfl hs rfl rfl (by kernel_rfl) (by first | (simp [Value.oneCell']; done) | (refine Z.all_one ?_; assumption)) (by first | exact SX.at0 | exact SX.at1 | exact SX.at2 | exact SX.at3 | exact SX.at4 | exact SX.at5 | exact Z.at6 | exact Z.at7 | exact Z.at8 | exact Z.at9 | exact Z.at10 | exact Z.at11 | exact Z.at12) (by first | decide | (simp; done) | (simp; omega)) ?_
    clear hs; intro ws hs
    simp only [Nat.zero_add, Nat.add_zero, Nat.reduceAdd, Int.reduceToNat, Nat.reduceMul, List.set_cons_zero, List.set_cons_succ, List.setIfInBounds_toArray] at hs
    try simp only [Z.putL, Nat.zero_add] at hs
    refine Z.tk (Dn := fun _ => true) (i := 16) (fun _ => ⟨_, hs, by first | (simp; done) | exact fun e he => List.mem_append_right _ he⟩) ?_
    refine Z.tn 17 rfl rfl (by kernel_rfl) rfl trivial ?_
    first | refine Z.ZO.storeA rfl rfl hs rfl rfl (by kernel_rfl) (by first | (simp [Value.oneCell']; done) | (refine Z.all_one ?_; assumption)) (by first | exact SX.at0 | exact SX.at1 | exact SX.at2 | exact SX.at3 | exact SX.at4 | exact SX.at5 | exact Z.at6 | exact Z.at7 | exact Z.at8 | exact Z.at9 | exact Z.at10 | exact Z.at11 | exact Z.at12) (by rfl) ?_ | refine Z.ZO.storeP rfl rfl hs rfl rfl (by kernel_rfl) (by first | (simp [Value.oneCell']; done) | (refine Z.all_one ?_; assumption)) (by first | exact SX.at0 | exact SX.at1 | exact SX.at2 | exact SX.at3 | exact SX.at4 | exact SX.at5 | exact Z.at6 | exact Z.at7 | exact Z.at8 | exact Z.at9 | exact Z.at10 | exact Z.at11 | exact Z.at12) (by first | decide | (simp; done) | (simp; omega)) ?_ | refine Z.ZO.storePR rfl rfl hs rfl rfl (by kernel_rfl) (by first | (simp [Value.oneCell']; done) | (refine Z.all_one ?_; assumption)) (by first | exact SX.at0 | exact SX.at1 | exact SX.at2 | exact SX.at3 | exact SX.at4 | exact SX.at5 | exact Z.at6 | exact Z.at7 | exact Z.at8 | exact Z.at9 | exact Z.at10 | exact Z.at11 | exact Z.at12) (by first | decide | (simp; done) | (simp; omega)) ?_
    clear hs; intro ws hs
    simp only [Nat.zero_add, Nat.add_zero, Nat.reduceAdd, Int.reduceToNat, Nat.reduceMul, List.set_cons_zero, List.set_cons_succ, List.setIfInBounds_toArray] at hs
    try simp only [Z.putL, Nat.zero_add] at hs
    refine Z.tk (Dn := fun _ => true) (i := 17) (fun _ => ⟨_, hs, by first | (simp; done) | exact fun e he => List.mem_append_right _ he⟩) ?_
    refine Z.td (by rfl) (by kernel_rfl) ?_
    refine Z.only [6, 7] rfl ?_
    refine Z.nthen ?_
    refine Z.seq ?_
    refine Z.region ?_
    simp only [chC] at hs
    refine Z.l rfl rfl (by rfl) (Z.keepS hs) (Z.Yd.fieldA (m := 0) rfl (by kernel_rfl)) ?_
    refine Z.l rfl rfl (by rfl) (Z.keepS hs) (Z.Yd.fieldA (m := 1) rfl (by kernel_rfl)) ?_
    refine Z.l rfl rfl (by rfl) (Z.keepS hs) (by first | exact Z.Yd.load rfl Try.isAgg3 (fun _ => Z.cellB (by first | ((repeat (first | exact List.mem_cons_self | refine List.mem_cons_of_mem _ ?_ | refine List.mem_append_right _ ?_)); done) | fail) rfl) | exact Z.Yd.load rfl Try.isAgg3 (fun _ => Z.cellO (by assumption) (by simp) (by assumption)) | fail "load 2.2") ?_
    refine Z.l rfl rfl (by rfl) (Z.keepS hs) (Z.Yd.fieldA (m := 0) rfl (by kernel_rfl)) ?_
    refine Z.l rfl rfl (by rfl) (Z.keepS hs) (Z.Yd.fieldA (m := 1) rfl (by kernel_rfl)) ?_
    refine Z.l rfl rfl (by rfl) (Z.keepS hs) (by first | exact Z.Yd.load rfl Try.isAgg3 (fun _ => Z.cellB (by first | ((repeat (first | exact List.mem_cons_self | refine List.mem_cons_of_mem _ ?_ | refine List.mem_append_right _ ?_)); done) | fail) rfl) | exact Z.Yd.load rfl Try.isAgg3 (fun _ => Z.cellO (by assumption) (by simp) (by assumption)) | fail "load 2.5") ?_
    refine Z.l rfl rfl (by rfl) (Z.keepS hs) (Z.Yd.sub rfl rfl (fun hG => Z.wi64 (by first | omega | (have hG' := Z.gh rfl hG; simp at hG'; omega)))) ?_
    refine Z.l rfl rfl (by rfl) (Z.keepS hs) (Z.Yd.fieldA (m := 0) rfl (by kernel_rfl)) ?_
    refine Z.l rfl rfl (by rfl) (Z.keepS hs) (Z.Yd.fieldA (m := 0) rfl (by kernel_rfl)) ?_
    refine Z.l rfl rfl (by rfl) (Z.keepS hs) (by first | exact Z.Yd.load rfl Try.isAgg3 (fun _ => Z.cellB (by first | ((repeat (first | exact List.mem_cons_self | refine List.mem_cons_of_mem _ ?_ | refine List.mem_append_right _ ?_)); done) | fail) rfl) | exact Z.Yd.load rfl Try.isAgg3 (fun _ => Z.cellO (by assumption) (by simp) (by assumption)) | fail "load 2.9") ?_
    refine Z.l rfl rfl (by rfl) (Z.keepS hs) (Z.Yd.fieldA (m := 0) rfl (by kernel_rfl)) ?_
    refine Z.l rfl rfl (by rfl) (Z.keepS hs) (Z.Yd.fieldA (m := 0) rfl (by kernel_rfl)) ?_
    refine Z.l rfl rfl (by rfl) (Z.keepS hs) (by first | exact Z.Yd.load rfl Try.isAgg3 (fun _ => Z.cellB (by first | ((repeat (first | exact List.mem_cons_self | refine List.mem_cons_of_mem _ ?_ | refine List.mem_append_right _ ?_)); done) | fail) rfl) | exact Z.Yd.load rfl Try.isAgg3 (fun _ => Z.cellO (by assumption) (by simp) (by assumption)) | fail "load 2.12") ?_
    refine Z.l rfl rfl (by rfl) (Z.keepS hs) (Z.Yd.sub rfl rfl (fun hG => Z.wi64 (by first | omega | (have hG' := Z.gh rfl hG; simp at hG'; omega)))) ?_
    refine Z.le rfl trivial ?_
    refine Z.ZO.litL (T' := 3) [(0, 1), (1, 1)] [.int .i64 0, .int .i64 0] rfl rfl (by rfl) rfl rfl (by intro W; kernel_rfl) hs ?_
    clear hs; intro g36 w36 hs
    refine Z.le rfl trivial ?_
    refine Z.ZO.call rfl rfl (by rfl) rfl rfl Try.call34 rfl (bk_or _ _ (a.pr - b.pr) (a.id - b.id) _ (hs.blkSl (by first | ((repeat (first | exact List.mem_cons_self | refine List.mem_cons_of_mem _ ?_ | refine List.mem_append_right _ ?_)); done) | fail))) ?_
    rintro v2_15 w2_15 ⟨rfl, hy⟩
    replace hs := hs.call hy
    clear hy
    try simp only [List.cons_append, List.nil_append, List.append_nil] at hs
    refine Z.lb 1 rfl ?_
    refine Z.lnil ?_
    refine Z.only [5] rfl ?_
    refine Z.nthen ?_
    refine Z.ret ?_
    -- ret#1
    refine Z.out1 (by exact ⟨rfl, trivial⟩) ?_
    refine ⟨_, rfl, ⟨_, rfl, ?_⟩, hs.sub (List.nil_sublist _)⟩
    split <;> omega
theorem flat_pre {α β : Type} (f : α → List β) (l : List α) (i : Nat) : (l.take i).flatMap f <+: l.flatMap f := by
  conv => rhs; rw [← List.take_append_drop i l, List.flatMap_append]
  exact List.prefix_append _ _
def newB (ls : List LgV) : BkV := ⟨ls, List.replicate ls.length 0, 0⟩
theorem newB_chs (ls : List LgV) : (newB ls).chs = ls.map fun x => (x, (0 : Int)) := by
  unfold BkV.chs newB
  dsimp only
  refine List.ext_getElem (by simp) fun i h1 h2 => by simp
theorem newB_ok {ls : List LgV} (h : okSet ls) : (newB ls).ok := by
  refine ⟨h, by simp [newB], fun i hi => ?_, by simp [newB]⟩
  have := (h.lg hi).2.2.2.1
  have e : elt (newB ls).b (i : Int) = 0 := by
    have : i < ls.length := hi
    simp [newB, elt, this]
  rw [e]
  exact ⟨by omega, this.1⟩
/-- the program's object -/
def bkE (g : Nat) (sv so : Value) (m : BkV) : List SX.Ent := [SX.Ent.blk g 63 #[sv, so, .int .i64 m.now], SX.Ent.row sv 72 6 m.l.length (m.chs.flatMap chC), SX.Ent.row so 3 1 m.l.length (ints .i64 (natI (ordL m.l)))]
theorem any_prefix {ls : List LgV} {i : Nat} (hi : i < ls.length) (h : ids (ls.take i)) : ids (ls.take (i + 1)) ↔ (ls.take i).any (fun y => decide (y.id = ls[i].id)) = false := by
  have e : ls.take (i + 1) = ls.take i ++ [ls[i]] := by rw [List.take_add_one, List.getElem?_eq_getElem hi]; rfl
  rw [e]
  unfold ids at *
  rw [List.pairwise_append, List.any_eq_false]
  constructor
  · rintro ⟨-, -, h3⟩ y hy
    simpa using h3 y hy _ (by simp)
  · intro h3
    refine ⟨h, List.pairwise_singleton _ _, fun y hy z hz => ?_⟩
    obtain rfl : z = ls[i] := by simpa using hz
    simpa using h3 y hy
set_option maxHeartbeats 1000000 in
set_option maxRecDepth 100000 in
theorem bk_new (A : Option Addr) (n c : Nat) (ls : List LgV) (w : World) (hx : Sl w A (ls.flatMap LgV.cells)) (hl : ls.length = n) (hn : n ≤ 1000) (hc : n ≤ c) :
    Calls Try.prog 9 #[.slice A n c] w (SX.Ret fun v w' => if okSet ls then ∃ g sv so, v = .tuple #[.pointer (some ⟨g, 0, none⟩), .int .i64 0] ∧ SX.St w [] w' (bkE g sv so (newB ls)) else v = .tuple #[.pointer none, .int .i64 2] ∧ SX.St w [] w' []) := by
  have hs := SX.St.start w
  refine Z.enter Try.func9 rfl Try.ntmps9 rfl rfl ?_
  refine Z.seq ?_
  refine Z.region ?_
  refine Z.lb 2 rfl ?_
  refine Z.lnil ?_
  refine Z.only [0] rfl ?_
  refine Z.nthen ?_
  refine Z.scopeJ (ι := Unit) 0 rfl [] rfl (fun _ => []) (fun _ wr => (¬ okSet ls) ∧ SX.St w [] wr []) ?_ ?_
  · skip
    refine Z.seq ?_
    refine Z.region ?_
    refine Z.le rfl trivial ?_
    refine Z.ZO.alloc rfl rfl (by rfl) Try.zeroValue24 rfl hs ?_
    clear hs; intro g4 w4 hs
    refine Z.lnil ?_
    refine Z.only [0, 4] rfl ?_
    refine Z.nthen ?_
    refine Z.seq ?_
    refine Z.seq ?_
    refine Z.region ?_
    refine Z.lb 1 rfl ?_
    refine Z.l rfl rfl (by rfl) (Z.keepS hs) (Z.Yd.lenS rfl Try.underlying22) ?_
    refine Z.le rfl trivial ?_
    refine Z.ZO.call rfl rfl (by rfl) rfl rfl Try.call27 rfl (bk_between (n : Int) 1 10 _) ?_
    rintro v2_2 w2_2 ⟨rfl, hy⟩
    replace hs := hs.call hy
    clear hy
    try simp only [List.cons_append, List.nil_append, List.append_nil] at hs
    refine Z.lb 2 rfl ?_
    refine Z.split (s := 11) rfl (fun hsp11 => ?_) (fun hsp11 => ?_)
    · first
        | (exfalso; simp at hsp11 <;> omega)
        | (
          refine Z.yes (s := 11) (b := true) rfl hsp11 rfl ?_
          (try simp at hsp11)
          refine Z.ls rfl rfl rfl (by rfl) ?_
          refine Z.ls rfl rfl rfl (by rfl) ?_
          refine Z.ls rfl rfl rfl (by rfl) ?_
          refine Z.l rfl rfl (by rfl) (Z.keepS hs) (Z.Yd.pickT rfl rfl) ?_
          refine Z.lnil ?_
          refine Z.only [0, 4, 15] rfl ?_
          refine Z.nthen ?_
          refine Z.cond rfl (fun hc2 => ?_) (fun hc2 => ?_)
          · first
              | (exfalso; simp at hc2 <;> omega)
              | (
                (try simp at hc2)
                have hno : ¬ okSet ls := by rintro ⟨h1, h2, -⟩; first | omega | (obtain ⟨x, hx1, hx2⟩ := hc2; exact hx2 (h2 x hx1))
                refine Z.goto ?_
                refine Z.gthen ?_
                refine Z.gjump ?_
                exact Z.meet () trivial ⟨by assumption, hs.sub (List.nil_sublist _)⟩
                )
          · first
              | (exfalso; simp at hc2 <;> omega)
              | (
                (try simp at hc2)
                have hn1 : 1 ≤ n ∧ n ≤ 10 := by omega
                have hlg : ∀ x ∈ ls, okLg x := by simp_all
                obtain ⟨bb, off, rfl, hb0, hx2⟩ := Z.Sl.some hx (by rw [flat_len lg_len]; omega)
                refine Z.skip ?_
                refine Z.nthen ?_
                refine Z.seq ?_
                refine Z.region ?_
                refine Z.l rfl rfl (by rfl) (Z.keepS hs) (Z.Yd.buildL [(0, 1), (1, 1), (2, 1)] [.slice none 0 0, .slice none 0 0, .int .i64 0] rfl rfl (by intro w; kernel_rfl)) ?_
                refine Z.le rfl trivial ?_
                refine Z.ZO.box rfl rfl (by rfl) rfl rfl hs ?_
                clear hs; intro g17 w17 hs
                refine Z.le rfl trivial ?_
                first | refine Z.ZO.store rfl rfl hs Try.sizeOf24 rfl rfl rfl (by first | exact SX.at0 | exact SX.at1 | exact SX.at2 | exact SX.at3 | exact SX.at4 | exact SX.at5 | exact Z.at6 | exact Z.at7 | exact Z.at8 | exact Z.at9 | exact Z.at10 | exact Z.at11 | exact Z.at12) (by first | (simp; done) | (simp; omega)) ?_ | refine Z.ZO.storeR rfl rfl hs Try.sizeOf24 rfl rfl rfl (by first | exact SX.at0 | exact SX.at1 | exact SX.at2 | exact SX.at3 | exact SX.at4 | exact SX.at5 | exact Z.at6 | exact Z.at7 | exact Z.at8 | exact Z.at9 | exact Z.at10 | exact Z.at11 | exact Z.at12) (by first | omega | (simp [ints_length]; done) | (simp [ints_length]; omega)) ?_
                clear hs; intro ws hs
                simp only [Nat.zero_add, Nat.add_zero, Nat.reduceAdd, Int.reduceToNat, Nat.reduceMul, List.set_cons_zero, List.set_cons_succ, List.setIfInBounds_toArray] at hs
                refine Z.lnil ?_
                refine Z.only [0, 4] rfl ?_
                refine Z.nthen ?_
                refine Z.seq ?_
                refine Z.seq ?_
                refine Z.region ?_
                replace hs : SX.St w [] _ [SX.Ent.blk g4 _ _, SX.Ent.blk g17 _ _, SX.Ent.row _ _ _ _ _, SX.Ent.row _ _ _ _ _] := ((hs.nil 3 1).nil 72 6).sel [3, 2, 0, 1] (by decide)
                refine Z.l rfl rfl (by rfl) (Z.keepS hs) (Z.Yd.pure rfl) ?_
                refine Z.l rfl rfl (by rfl) (Z.keepS hs) (Z.Yd.lenS rfl Try.underlying22) ?_
                refine Z.lb 1 rfl ?_
                refine Z.lnil ?_
                refine Z.only [0, 4, 18, 19, 20] rfl ?_
                refine Z.nthen ?_
                refine Z.block ?_
                refine Z.loopk (ι := Nat × Value × Value) [0, 4, 18, 19] rfl (fun x => [(20, [], .int .i64 (x.1 : Int))]) (fun x wr => (x.1 ≤ n ∧ ids (ls.take x.1)) ∧ SX.St w [] wr [SX.Ent.blk g4 24 #[.pointer (some ⟨g17, 0, none⟩)], SX.Ent.blk g17 63 #[x.2.1, x.2.2, .int .i64 0], SX.Ent.row x.2.1 72 6 x.1 (((ls.take x.1).map fun x => (x, (0 : Int))).flatMap chC), SX.Ent.row x.2.2 3 1 x.1 (ints .i64 (natI (List.range x.1)))]) (fun x => n - x.1) (0, .slice none 0 0, .slice none 0 0) (by refine ⟨?_, trivial⟩ <;> (first | rfl | (refine Z.lookv rfl ?_; simp; done) | (refine Z.lookv rfl ?_; simp; omega))) ⟨⟨by simp only; omega, by simp [ids]⟩, hs⟩ ?_
                clear hs
                rintro ⟨i, sv, so⟩ w5 ⟨⟨hi, hids⟩, hs⟩
                refine Z.only [0, 4, 18, 19, 20] rfl ?_
                (try dsimp only at hs)
                dsimp only at hi hids hs
                refine Z.seq ?_
                refine Z.region ?_
                refine Z.lb 1 rfl ?_
                refine Z.lnil ?_
                refine Z.only [0, 4, 18, 19, 20, 21] rfl ?_
                refine Z.nthen ?_
                refine Z.seq ?_
                refine Z.cond rfl (fun hc5 => ?_) (fun hc5 => ?_)
                · first
                    | (exfalso; simp at hc5 <;> omega)
                    | (
                      (try simp at hc5)
                      have hlt : i < ls.length := by omega
                      have hel : ls[i]? = some ls[i] := List.getElem?_eq_getElem hlt
                      have hpre := any_prefix hlt hids
                      generalize ls[i] = xi at hel hpre
                      have hone := lg_one xi
                      have htk : ls.take (i + 1) = ls.take i ++ [xi] := by rw [List.take_add_one, hel]; rfl
                      refine Z.skip ?_
                      refine Z.nthen ?_
                      refine Z.seq ?_
                      refine Z.block ?_
                      refine Z.seq ?_
                      refine Z.region ?_
                      refine Z.lb 1 rfl ?_
                      refine Z.l rfl rfl (by rfl) (Z.keepS hs) (Z.Yd.elem rfl rfl Try.underlying22 Try.sizeOf38 (fun hG => ⟨(by first | omega | (have hG' := Z.gh rfl hG; simp at hG'; omega)), (by first | omega | (have hG' := Z.gh rfl hG; simp at hG'; omega))⟩)) ?_
                      refine Z.l rfl rfl (by rfl) (Z.keepS hs) (Z.Yd.loadA _ rfl Try.isAgg38 (fun _ W hK j u hu => Z.cellXq (enc := LgV.cells) hx2.sx lg_len hel hu W hK) (by exact Try.sizeOf38)) ?_
                      refine Z.le rfl trivial ?_
                      refine Z.ZO.alloc rfl rfl (by rfl) Try.zeroValue38 rfl hs ?_
                      clear hs; intro g6 w6 hs
                      refine Z.lb 1 rfl ?_
                      refine Z.le rfl trivial ?_
                      first | refine Z.ZO.storeA rfl rfl hs rfl rfl (by kernel_rfl) (by first | (simp [Value.oneCell']; done) | (refine Z.all_one ?_; assumption)) (by first | exact SX.at0 | exact SX.at1 | exact SX.at2 | exact SX.at3 | exact SX.at4 | exact SX.at5 | exact Z.at6 | exact Z.at7 | exact Z.at8 | exact Z.at9 | exact Z.at10 | exact Z.at11 | exact Z.at12) (by rfl) ?_ | refine Z.ZO.storeP rfl rfl hs rfl rfl (by kernel_rfl) (by first | (simp [Value.oneCell']; done) | (refine Z.all_one ?_; assumption)) (by first | exact SX.at0 | exact SX.at1 | exact SX.at2 | exact SX.at3 | exact SX.at4 | exact SX.at5 | exact Z.at6 | exact Z.at7 | exact Z.at8 | exact Z.at9 | exact Z.at10 | exact Z.at11 | exact Z.at12) (by first | decide | (simp; done) | (simp; omega)) ?_ | refine Z.ZO.storePR rfl rfl hs rfl rfl (by kernel_rfl) (by first | (simp [Value.oneCell']; done) | (refine Z.all_one ?_; assumption)) (by first | exact SX.at0 | exact SX.at1 | exact SX.at2 | exact SX.at3 | exact SX.at4 | exact SX.at5 | exact Z.at6 | exact Z.at7 | exact Z.at8 | exact Z.at9 | exact Z.at10 | exact Z.at11 | exact Z.at12) (by first | decide | (simp; done) | (simp; omega)) ?_
                      clear hs; intro ws hs
                      simp only [Nat.zero_add, Nat.add_zero, Nat.reduceAdd, Int.reduceToNat, Nat.reduceMul, List.set_cons_zero, List.set_cons_succ, List.setIfInBounds_toArray] at hs
                      try simp only [Z.putL, Nat.zero_add] at hs
                      refine Z.lnil ?_
                      refine Z.only [0, 4, 5, 6, 18, 19, 20] rfl ?_
                      refine Z.nthen ?_
                      refine Z.seq ?_
                      refine Z.seq ?_
                      refine Z.region ?_
                      refine Z.lb 3 rfl ?_
                      refine Z.l rfl rfl (by rfl) (Z.keepS hs) (Z.Yd.cut3 0 i i rfl rfl rfl rfl Try.underlying22 Try.sizeOf38 (fun hG => ⟨(by first | omega | (have hG' := Z.gh rfl hG; simp at hG'; omega)), (by first | omega | (have hG' := Z.gh rfl hG; simp at hG'; omega)), (by first | omega | (have hG' := Z.gh rfl hG; simp at hG'; omega)), (by first | omega | (have hG' := Z.gh rfl hG; simp at hG'; omega)), (by first | omega | (have hG' := Z.gh rfl hG; simp at hG'; omega))⟩)) ?_
                      refine Z.lb 1 rfl ?_
                      refine Z.le rfl trivial ?_
                      refine Z.ZO.call rfl rfl (by rfl) rfl rfl Try.call30 rfl (bk_containsL _ i i (ls.take i) 31 _ (fun y ↦ decide (y.id = xi.id)) _ (by rw [slA_zero]; exact Sl.pre (hx2.st hs) (flat_pre _ _ _)) (by simp; omega) (by omega) Try.call31 (fun y W hW ↦ bk_new1 g6 xi y W (Cel.st (hs.celOf (by first | ((repeat (first | exact List.mem_cons_self | refine List.mem_cons_of_mem _ ?_ | refine List.mem_append_right _ ?_)); done) | fail)) hW))) ?_
                      rintro v7_5 w7_5 ⟨rfl, hy⟩
                      replace hs := hs.call hy
                      clear hy
                      try simp only [List.cons_append, List.nil_append, List.append_nil] at hs
                      refine Z.lnil ?_
                      refine Z.only [0, 4, 5, 6, 18, 19, 20, 30] rfl ?_
                      refine Z.nthen ?_
                      refine Z.cond rfl (fun hc7 => ?_) (fun hc7 => ?_)
                      · first
                          | (exfalso; simp at hc7 <;> omega)
                          | (
                            (try simp at hc7)
                            have hno : ¬ okSet ls := fun h => by
                              have h2 := hpre.1 (h.2.2.sublist (List.take_sublist _ _))
                              obtain ⟨x, hx1, hx3⟩ := hc7
                              have h3 := List.any_eq_false.1 h2 x hx1
                              simp [hx3] at h3
                            refine Z.goto ?_
                            refine Z.gthen ?_
                            refine Z.gblock ?_
                            refine Z.gthen ?_
                            refine Z.gthen ?_
                            refine Z.gblock ?_
                            refine Z.gthen ?_
                            refine Z.gjump ?_
                            exact Z.meet () trivial ⟨by assumption, hs.sub (List.nil_sublist _)⟩
                            )
                      · first
                          | (exfalso; simp at hc7 <;> omega)
                          | (
                            (try simp at hc7)
                            have hids2 := hpre.2 (by simp_all)
                            refine Z.skip ?_
                            refine Z.nthen ?_
                            refine Z.drawC [SX.Ent.blk g6 38 xi.cells.toArray, SX.Ent.blk g4 24 #[.pointer (some ⟨g17, 0, none⟩)]] mixed hs ?_
                            clear hs; intro wd8 hs
                            refine Z.tC1 1 [1, 20, 21, 22] rfl rfl rfl (by rfl) (by kernel_rfl) ⟨_, hs, by first | (simp; done) | exact fun e he => List.mem_append_right _ he⟩ (by first | exact Z.Yd.load rfl Try.isAgg24 (fun _ => Z.cellB (by first | ((repeat (first | exact List.mem_cons_self | refine List.mem_cons_of_mem _ ?_ | refine List.mem_append_right _ ?_)); done) | fail) rfl) | exact Z.Yd.load rfl Try.isAgg24 (fun _ => Z.cellO (by assumption) (by simp) (by assumption)) | fail "load 8.1") ?_
                            refine Z.twoC [SX.Ent.blk g6 38 xi.cells.toArray, SX.Ent.blk g4 24 #[.pointer (some ⟨g17, 0, none⟩)], SX.Ent.blk g17 63 #[sv, so, .int .i64 0]] [17, 18, 19, 20, 21, 22] ?_
                            refine Z.tC2 0 [0, 17, 18, 19, 20, 21, 22] rfl rfl rfl (by rfl) (by kernel_rfl) rfl ⟨_, hs, by first | (simp; done) | exact fun e he => List.mem_append_right _ he⟩ ⟨_, hs, by first | (simp; done) | exact fun e he => List.mem_append_right _ he⟩ (Z.yd2 (by first | exact Z.Yd.load rfl Try.isAgg24 (fun _ => Z.cellB (by first | ((repeat (first | exact List.mem_cons_self | refine List.mem_cons_of_mem _ ?_ | refine List.mem_append_right _ ?_)); done) | fail) rfl) | exact Z.Yd.load rfl Try.isAgg24 (fun _ => Z.cellO (by assumption) (by simp) (by assumption)) | fail "load 8.0")) ?_
                            refine Z.tC2 2 [2, 3, 4, 5, 9, 16, 17, 18, 19, 20, 21, 22] rfl rfl rfl (by rfl) (by kernel_rfl) rfl ⟨_, hs, by first | (simp; done) | exact fun e he => List.mem_append_right _ he⟩ ⟨_, hs, by first | (simp; done) | exact fun e he => List.mem_append_right _ he⟩ (Z.yd2 (by first | exact Z.Yd.load rfl Try.isAgg24 (fun _ => Z.cellB (by first | ((repeat (first | exact List.mem_cons_self | refine List.mem_cons_of_mem _ ?_ | refine List.mem_append_right _ ?_)); done) | fail) rfl) | exact Z.Yd.load rfl Try.isAgg24 (fun _ => Z.cellO (by assumption) (by simp) (by assumption)) | fail "load 8.2")) ?_
                            refine Z.tC2 3 [3, 4, 5, 9, 16, 17, 18, 19, 20, 21, 22] rfl rfl rfl (by rfl) (by kernel_rfl) rfl ⟨_, hs, by first | (simp; done) | exact fun e he => List.mem_append_right _ he⟩ ⟨_, hs, by first | (simp; done) | exact fun e he => List.mem_append_right _ he⟩ (Z.yd2 (Z.Yd.nilc rfl rfl)) ?_
                            refine Z.tC2 4 [4, 5, 9, 16, 17, 18, 19, 20, 21, 22] rfl rfl rfl (by rfl) (by kernel_rfl) rfl ⟨_, hs, by first | (simp; done) | exact fun e he => List.mem_append_right _ he⟩ ⟨_, hs, by first | (simp; done) | exact fun e he => List.mem_append_right _ he⟩ (Z.yd2 (Z.Yd.fieldA (m := 0) rfl (by kernel_rfl))) ?_
                            refine Z.tC2 5 [5, 9, 16, 17, 18, 19, 20, 21, 22] rfl rfl rfl (by rfl) (by kernel_rfl) rfl ⟨_, hs, by first | (simp; done) | exact fun e he => List.mem_append_right _ he⟩ ⟨_, hs, by first | (simp; done) | exact fun e he => List.mem_append_right _ he⟩ (Z.yd2 (by first | exact Z.Yd.load rfl Try.isAgg61 (fun _ => Z.cellB (by first | ((repeat (first | exact List.mem_cons_self | refine List.mem_cons_of_mem _ ?_ | refine List.mem_append_right _ ?_)); done) | fail) rfl) | exact Z.Yd.load rfl Try.isAgg61 (fun _ => Z.cellO (by assumption) (by simp) (by assumption)) | fail "load 8.5")) ?_
                            refine Z.tC2 6 [6, 7, 8, 9, 16, 17, 18, 19, 20, 21, 22] rfl rfl rfl (by rfl) (by kernel_rfl) rfl ⟨_, hs, by first | (simp; done) | exact fun e he => List.mem_append_right _ he⟩ ⟨_, hs, by first | (simp; done) | exact fun e he => List.mem_append_right _ he⟩ (Z.yd2 (Z.Yd.loadA _ rfl Try.isAgg38 (fun _ => Z.cellsB (cs := LgV.cells xi) (by first | ((repeat (first | exact List.mem_cons_self | refine List.mem_cons_of_mem _ ?_ | refine List.mem_append_right _ ?_)); done) | fail)) (by exact Try.sizeOf38))) ?_
                            refine Z.tC2 7 [7, 8, 9, 16, 17, 18, 19, 20, 21, 22] rfl rfl rfl (by rfl) (by kernel_rfl) rfl ⟨_, hs, by first | (simp; done) | exact fun e he => List.mem_append_right _ he⟩ ⟨_, hs, by first | (simp; done) | exact fun e he => List.mem_append_right _ he⟩ (Z.yd2 (Z.Yd.buildL [(0, 5), (5, 1)] [.int .i64 0, .int .i64 0, .int .i64 0, .int .i64 0, .int .i64 0, .int .i64 0] rfl rfl (by intro w; kernel_rfl))) ?_
                            refine Z.tC2 10 [10, 11, 12, 13, 16, 17, 18, 19, 20, 21, 22] rfl rfl rfl (by rfl) (by kernel_rfl) rfl ⟨_, hs, by first | (simp; done) | exact fun e he => List.mem_append_right _ he⟩ ⟨_, hs, by first | (simp; done) | exact fun e he => List.mem_append_right _ he⟩ (Z.yd2 (by first | exact Z.Yd.load rfl Try.isAgg24 (fun _ => Z.cellB (by first | ((repeat (first | exact List.mem_cons_self | refine List.mem_cons_of_mem _ ?_ | refine List.mem_append_right _ ?_)); done) | fail) rfl) | exact Z.Yd.load rfl Try.isAgg24 (fun _ => Z.cellO (by assumption) (by simp) (by assumption)) | fail "load 8.10")) ?_
                            refine Z.tC2 11 [11, 12, 13, 16, 17, 18, 19, 20, 21, 22] rfl rfl rfl (by rfl) (by kernel_rfl) rfl ⟨_, hs, by first | (simp; done) | exact fun e he => List.mem_append_right _ he⟩ ⟨_, hs, by first | (simp; done) | exact fun e he => List.mem_append_right _ he⟩ (Z.yd2 (Z.Yd.nilc rfl rfl)) ?_
                            refine Z.tC2 12 [12, 13, 16, 17, 18, 19, 20, 21, 22] rfl rfl rfl (by rfl) (by kernel_rfl) rfl ⟨_, hs, by first | (simp; done) | exact fun e he => List.mem_append_right _ he⟩ ⟨_, hs, by first | (simp; done) | exact fun e he => List.mem_append_right _ he⟩ (Z.yd2 (Z.Yd.fieldA (m := 1) rfl (by kernel_rfl))) ?_
                            refine Z.tC2 13 [13, 16, 17, 18, 19, 20, 21, 22] rfl rfl rfl (by rfl) (by kernel_rfl) rfl ⟨_, hs, by first | (simp; done) | exact fun e he => List.mem_append_right _ he⟩ ⟨_, hs, by first | (simp; done) | exact fun e he => List.mem_append_right _ he⟩ (Z.yd2 (by first | exact Z.Yd.load rfl Try.isAgg28 (fun _ => Z.cellB (by first | ((repeat (first | exact List.mem_cons_self | refine List.mem_cons_of_mem _ ?_ | refine List.mem_append_right _ ?_)); done) | fail) rfl) | exact Z.Yd.load rfl Try.isAgg28 (fun _ => Z.cellO (by assumption) (by simp) (by assumption)) | fail "load 8.13")) ?_
                            refine Z.tC2 14 [14, 15, 16, 17, 18, 19, 20, 21, 22] rfl rfl rfl (by rfl) (by kernel_rfl) rfl ⟨_, hs, by first | (simp; done) | exact fun e he => List.mem_append_right _ he⟩ ⟨_, hs, by first | (simp; done) | exact fun e he => List.mem_append_right _ he⟩ (Z.yd2 (Z.Yd.pure rfl)) ?_
                            refine Z.forkC [8, 15] rfl (by kernel_rfl) rfl ⟨⟨_, _, rfl, rfl, trivial, ?_⟩, ⟨_, _, rfl, rfl, trivial, ?_⟩, trivial⟩
                            · skip
                              refine Z.ZO.litL (T' := 72) [(0, 6)] [.int .i64 0, .int .i64 0, .int .i64 0, .int .i64 0, .int .i64 0, .int .i64 0] rfl rfl (by rfl) rfl rfl (by intro W; kernel_rfl) hs ?_
                              clear hs; intro g39 w39 hs
                              refine Z.tkC (C := Z.lv2 _ _ [17, 18, 19, 20, 21, 22]) (i := 8) ⟨⟨_, hs, by first | (simp; done) | exact fun e he => List.mem_append_right _ he⟩, fun _ => ⟨_, hs, by first | (simp; done) | exact fun e he => List.mem_append_right _ he⟩⟩ ?_
                              refine Z.forkC [9, 15] rfl (by kernel_rfl) rfl ⟨⟨_, _, rfl, rfl, trivial, ?_⟩, ⟨_, _, rfl, rfl, trivial, ?_⟩, trivial⟩
                              · skip
                                refine Z.ZO.append (i0 := Try.t72) (size := 6) (bytes := 48) rfl rfl (by rfl) hs Try.underlying61 (by kernel_rfl) rfl rfl rfl rfl (by decide) rfl rfl (by first | exact SX.at0 | exact SX.at1 | exact SX.at2 | exact SX.at3 | exact SX.at4 | exact SX.at5 | exact Z.at6 | exact Z.at7 | exact Z.at8 | exact Z.at9 | exact Z.at10 | exact Z.at11 | exact Z.at12) (by first | exact SX.at0 | exact SX.at1 | exact SX.at2 | exact SX.at3 | exact SX.at4 | exact SX.at5 | exact Z.at6 | exact Z.at7 | exact Z.at8 | exact Z.at9 | exact Z.at10 | exact Z.at11 | exact Z.at12) (by first | rfl | simp) (by simp [Value.oneCell']) (by decide) (by unfold maxLen; omega) (by omega) ?_
                                clear hs; intro g40 cap40 w40 hs
                                simp only [List.set_cons_zero, List.set_cons_succ, List.eraseIdx_cons_zero, List.eraseIdx_cons_succ] at hs
                                refine Z.tkC (C := Z.lv2 _ _ [17, 18, 19, 20, 21, 22]) (i := 9) ⟨⟨_, hs, by first | (simp; done) | exact fun e he => List.mem_append_right _ he⟩, fun _ => ⟨_, hs, by first | (simp; done) | exact fun e he => List.mem_append_right _ he⟩⟩ ?_
                                refine Z.forkC [15] rfl (by kernel_rfl) rfl ⟨⟨_, _, rfl, rfl, trivial, ?_⟩, trivial⟩
                                refine Z.ZO.litL (T' := 3) [(0, 1)] [.int .i64 0] rfl rfl (by rfl) rfl rfl (by intro W; kernel_rfl) hs ?_
                                clear hs; intro g46 w46 hs
                                refine Z.tkC (C := Z.lv2 _ _ [17, 18, 19, 20, 21, 22]) (i := 15) ⟨⟨_, hs, by first | (simp; done) | exact fun e he => List.mem_append_right _ he⟩, fun _ => ⟨_, hs, by first | (simp; done) | exact fun e he => List.mem_append_right _ he⟩⟩ ?_
                                refine Z.forkC [16] rfl (by kernel_rfl) rfl ⟨⟨_, _, rfl, rfl, trivial, ?_⟩, trivial⟩
                                refine Z.ZO.append (i0 := Try.t3) (size := 1) (bytes := 8) rfl rfl (by rfl) hs Try.underlying28 (by kernel_rfl) rfl rfl rfl rfl (by decide) rfl rfl (by first | exact SX.at0 | exact SX.at1 | exact SX.at2 | exact SX.at3 | exact SX.at4 | exact SX.at5 | exact Z.at6 | exact Z.at7 | exact Z.at8 | exact Z.at9 | exact Z.at10 | exact Z.at11 | exact Z.at12) (by first | exact SX.at0 | exact SX.at1 | exact SX.at2 | exact SX.at3 | exact SX.at4 | exact SX.at5 | exact Z.at6 | exact Z.at7 | exact Z.at8 | exact Z.at9 | exact Z.at10 | exact Z.at11 | exact Z.at12) (by first | rfl | simp) (by simp [Value.oneCell']) (by decide) (by unfold maxLen; omega) (by omega) ?_
                                clear hs; intro g47 cap47 w47 hs
                                simp only [List.set_cons_zero, List.set_cons_succ, List.eraseIdx_cons_zero, List.eraseIdx_cons_succ] at hs
                                refine Z.tkC (C := Z.lv2 _ _ [17, 18, 19, 20, 21, 22]) (i := 16) ⟨⟨_, hs, by first | (simp; done) | exact fun e he => List.mem_append_right _ he⟩, fun _ => ⟨_, hs, by first | (simp; done) | exact fun e he => List.mem_append_right _ he⟩⟩ ?_
                                refine Z.forkC [17] rfl (by kernel_rfl) rfl ⟨⟨_, _, rfl, rfl, trivial, ?_⟩, trivial⟩
                                refine Z.ZO.quiet rfl (by rfl) (Z.keepS hs) (Z.Yd.nilc rfl rfl) ?_
                                refine Z.tkC (C := Z.lv2 _ _ [17, 18, 19, 20, 21, 22]) (i := 17) ⟨⟨_, hs, by first | (simp; done) | exact fun e he => List.mem_append_right _ he⟩, fun h => absurd h (by decide)⟩ ?_
                                refine Z.forkC [18] rfl (by kernel_rfl) rfl ⟨⟨_, _, rfl, rfl, trivial, ?_⟩, trivial⟩
                                refine Z.ZO.quiet rfl (by rfl) (Z.keepS hs) (Z.Yd.fieldA (m := 0) rfl (by kernel_rfl)) ?_
                                refine Z.tkC (C := Z.lv2 _ _ [17, 18, 19, 20, 21, 22]) (i := 18) ⟨⟨_, hs, by first | (simp; done) | exact fun e he => List.mem_append_right _ he⟩, fun h => absurd h (by decide)⟩ ?_
                                refine Z.forkC [19] rfl (by kernel_rfl) rfl ⟨⟨_, _, rfl, rfl, trivial, ?_⟩, trivial⟩
                                first | refine Z.ZO.store rfl rfl hs Try.sizeOf61 rfl rfl rfl (by first | exact SX.at0 | exact SX.at1 | exact SX.at2 | exact SX.at3 | exact SX.at4 | exact SX.at5 | exact Z.at6 | exact Z.at7 | exact Z.at8 | exact Z.at9 | exact Z.at10 | exact Z.at11 | exact Z.at12) (by first | (simp; done) | (simp; omega)) ?_ | refine Z.ZO.storeR rfl rfl hs Try.sizeOf61 rfl rfl rfl (by first | exact SX.at0 | exact SX.at1 | exact SX.at2 | exact SX.at3 | exact SX.at4 | exact SX.at5 | exact Z.at6 | exact Z.at7 | exact Z.at8 | exact Z.at9 | exact Z.at10 | exact Z.at11 | exact Z.at12) (by first | omega | (simp [ints_length]; done) | (simp [ints_length]; omega)) ?_
                                clear hs; intro ws hs
                                simp only [Nat.zero_add, Nat.add_zero, Nat.reduceAdd, Int.reduceToNat, Nat.reduceMul, List.set_cons_zero, List.set_cons_succ, List.setIfInBounds_toArray] at hs
                                refine Z.tkC (C := Z.lv2 _ _ [17, 18, 19, 20, 21, 22]) (i := 19) ⟨⟨_, hs, by first | (simp; done) | exact fun e he => List.mem_append_right _ he⟩, fun h => absurd h (by decide)⟩ ?_
                                refine Z.forkC [20] rfl (by kernel_rfl) rfl ⟨⟨_, _, rfl, rfl, trivial, ?_⟩, trivial⟩
                                refine Z.ZO.quiet rfl (by rfl) (Z.keepS hs) (Z.Yd.nilc rfl rfl) ?_
                                refine Z.tkC (C := Z.lv2 _ _ [17, 18, 19, 20, 21, 22]) (i := 20) ⟨⟨_, hs, by first | (simp; done) | exact fun e he => List.mem_append_right _ he⟩, fun h => absurd h (by decide)⟩ ?_
                                refine Z.forkC [21] rfl (by kernel_rfl) rfl ⟨⟨_, _, rfl, rfl, trivial, ?_⟩, trivial⟩
                                refine Z.ZO.quiet rfl (by rfl) (Z.keepS hs) (Z.Yd.fieldA (m := 1) rfl (by kernel_rfl)) ?_
                                refine Z.tkC (C := Z.lv2 _ _ [17, 18, 19, 20, 21, 22]) (i := 21) ⟨⟨_, hs, by first | (simp; done) | exact fun e he => List.mem_append_right _ he⟩, fun h => absurd h (by decide)⟩ ?_
                                refine Z.forkC [22] rfl (by kernel_rfl) rfl ⟨⟨_, _, rfl, rfl, trivial, ?_⟩, trivial⟩
                                first | refine Z.ZO.store rfl rfl hs Try.sizeOf28 rfl rfl rfl (by first | exact SX.at0 | exact SX.at1 | exact SX.at2 | exact SX.at3 | exact SX.at4 | exact SX.at5 | exact Z.at6 | exact Z.at7 | exact Z.at8 | exact Z.at9 | exact Z.at10 | exact Z.at11 | exact Z.at12) (by first | (simp; done) | (simp; omega)) ?_ | refine Z.ZO.storeR rfl rfl hs Try.sizeOf28 rfl rfl rfl (by first | exact SX.at0 | exact SX.at1 | exact SX.at2 | exact SX.at3 | exact SX.at4 | exact SX.at5 | exact Z.at6 | exact Z.at7 | exact Z.at8 | exact Z.at9 | exact Z.at10 | exact Z.at11 | exact Z.at12) (by first | omega | (simp [ints_length]; done) | (simp [ints_length]; omega)) ?_
                                clear hs; intro ws hs
                                simp only [Nat.zero_add, Nat.add_zero, Nat.reduceAdd, Int.reduceToNat, Nat.reduceMul, List.set_cons_zero, List.set_cons_succ, List.setIfInBounds_toArray] at hs
                                refine Z.tkC (C := Z.lv2 _ _ [17, 18, 19, 20, 21, 22]) (i := 22) ⟨⟨_, hs, by first | (simp; done) | exact fun e he => List.mem_append_right _ he⟩, fun h => absurd h (by decide)⟩ ?_
                                refine Z.tdC (by rfl) (by kernel_rfl) ?_
                                refine Z.only [0, 4, 18, 19, 20] rfl ?_
                                refine Z.nblock ?_
                                refine Z.nthen ?_
                                refine Z.region ?_
                                have e1 : ((ls.take (i + 1)).map fun x => (x, (0 : Int))).flatMap chC = ((ls.take i).map fun x => (x, (0 : Int))).flatMap chC ++ [.int .i64 xi.id, .int .i64 xi.pr, .int .i64 xi.rt, .int .i64 xi.dp, .int .i64 xi.gr, .int .i64 0] := by
                                  rw [htk, List.map_append, List.flatMap_append]
                                  rfl
                                have e2 : ints .i64 (natI (List.range (i + 1))) = ints .i64 (natI (List.range i)) ++ [.int .i64 (i : Int)] := by
                                  rw [List.range_succ]
                                  simp [natI, ints]
                                simp only [List.map_take] at e1 hs
                                refine Z.l rfl rfl (by rfl) (Z.keepS hs) (Z.Yd.add rfl rfl (fun hG => Z.wi64 (by first | omega | (have hG' := Z.gh rfl hG; simp at hG'; omega)))) ?_
                                refine Z.lb 1 rfl ?_
                                refine Z.lnil ?_
                                refine Z.only [0, 4, 18, 19, 20] rfl ?_
                                refine Z.nthen ?_
                                exact Z.again (i + 1, _, _) (by refine ⟨?_, ?_, ?_, ?_, ?_, trivial⟩ <;> (first | rfl | (refine Z.lookv rfl ?_; simp; done) | (refine Z.lookv rfl ?_; simp; omega))) ⟨⟨by simp only; omega, hids2⟩, by simp only [List.map_take]; rw [e1, e2]; exact hs.sel [1, 2, 3, 4] (by decide)⟩ (by simp only; omega)
                              · skip
                                refine Z.ZO.litL (T' := 3) [(0, 1)] [.int .i64 0] rfl rfl (by rfl) rfl rfl (by intro W; kernel_rfl) hs ?_
                                clear hs; intro g46 w46 hs
                                refine Z.tkC (C := Z.lv2 _ _ [17, 18, 19, 20, 21, 22]) (i := 15) ⟨⟨_, hs, by first | (simp; done) | exact fun e he => List.mem_append_right _ he⟩, fun _ => ⟨_, hs, by first | (simp; done) | exact fun e he => List.mem_append_right _ he⟩⟩ ?_
                                refine Z.forkC [9] rfl (by kernel_rfl) rfl ⟨⟨_, _, rfl, rfl, trivial, ?_⟩, trivial⟩
                                refine Z.ZO.append (i0 := Try.t72) (size := 6) (bytes := 48) rfl rfl (by rfl) hs Try.underlying61 (by kernel_rfl) rfl rfl rfl rfl (by decide) rfl rfl (by first | exact SX.at0 | exact SX.at1 | exact SX.at2 | exact SX.at3 | exact SX.at4 | exact SX.at5 | exact Z.at6 | exact Z.at7 | exact Z.at8 | exact Z.at9 | exact Z.at10 | exact Z.at11 | exact Z.at12) (by first | exact SX.at0 | exact SX.at1 | exact SX.at2 | exact SX.at3 | exact SX.at4 | exact SX.at5 | exact Z.at6 | exact Z.at7 | exact Z.at8 | exact Z.at9 | exact Z.at10 | exact Z.at11 | exact Z.at12) (by first | rfl | simp) (by simp [Value.oneCell']) (by decide) (by unfold maxLen; omega) (by omega) ?_
                                clear hs; intro g40 cap40 w40 hs
                                simp only [List.set_cons_zero, List.set_cons_succ, List.eraseIdx_cons_zero, List.eraseIdx_cons_succ] at hs
                                refine Z.tkC (C := Z.lv2 _ _ [17, 18, 19, 20, 21, 22]) (i := 9) ⟨⟨_, hs, by first | (simp; done) | exact fun e he => List.mem_append_right _ he⟩, fun _ => ⟨_, hs, by first | (simp; done) | exact fun e he => List.mem_append_right _ he⟩⟩ ?_
                                refine Z.forkC [16] rfl (by kernel_rfl) rfl ⟨⟨_, _, rfl, rfl, trivial, ?_⟩, trivial⟩
                                refine Z.ZO.append (i0 := Try.t3) (size := 1) (bytes := 8) rfl rfl (by rfl) hs Try.underlying28 (by kernel_rfl) rfl rfl rfl rfl (by decide) rfl rfl (by first | exact SX.at0 | exact SX.at1 | exact SX.at2 | exact SX.at3 | exact SX.at4 | exact SX.at5 | exact Z.at6 | exact Z.at7 | exact Z.at8 | exact Z.at9 | exact Z.at10 | exact Z.at11 | exact Z.at12) (by first | exact SX.at0 | exact SX.at1 | exact SX.at2 | exact SX.at3 | exact SX.at4 | exact SX.at5 | exact Z.at6 | exact Z.at7 | exact Z.at8 | exact Z.at9 | exact Z.at10 | exact Z.at11 | exact Z.at12) (by first | rfl | simp) (by simp [Value.oneCell']) (by decide) (by unfold maxLen; omega) (by omega) ?_
                                clear hs; intro g47 cap47 w47 hs
                                simp only [List.set_cons_zero, List.set_cons_succ, List.eraseIdx_cons_zero, List.eraseIdx_cons_succ] at hs
                                refine Z.tkC (C := Z.lv2 _ _ [17, 18, 19, 20, 21, 22]) (i := 16) ⟨⟨_, hs, by first | (simp; done) | exact fun e he => List.mem_append_right _ he⟩, fun _ => ⟨_, hs, by first | (simp; done) | exact fun e he => List.mem_append_right _ he⟩⟩ ?_
                                refine Z.forkC [17] rfl (by kernel_rfl) rfl ⟨⟨_, _, rfl, rfl, trivial, ?_⟩, trivial⟩
                                refine Z.ZO.quiet rfl (by rfl) (Z.keepS hs) (Z.Yd.nilc rfl rfl) ?_
                                refine Z.tkC (C := Z.lv2 _ _ [17, 18, 19, 20, 21, 22]) (i := 17) ⟨⟨_, hs, by first | (simp; done) | exact fun e he => List.mem_append_right _ he⟩, fun h => absurd h (by decide)⟩ ?_
                                refine Z.forkC [18] rfl (by kernel_rfl) rfl ⟨⟨_, _, rfl, rfl, trivial, ?_⟩, trivial⟩
                                refine Z.ZO.quiet rfl (by rfl) (Z.keepS hs) (Z.Yd.fieldA (m := 0) rfl (by kernel_rfl)) ?_
                                refine Z.tkC (C := Z.lv2 _ _ [17, 18, 19, 20, 21, 22]) (i := 18) ⟨⟨_, hs, by first | (simp; done) | exact fun e he => List.mem_append_right _ he⟩, fun h => absurd h (by decide)⟩ ?_
                                refine Z.forkC [19] rfl (by kernel_rfl) rfl ⟨⟨_, _, rfl, rfl, trivial, ?_⟩, trivial⟩
                                first | refine Z.ZO.store rfl rfl hs Try.sizeOf61 rfl rfl rfl (by first | exact SX.at0 | exact SX.at1 | exact SX.at2 | exact SX.at3 | exact SX.at4 | exact SX.at5 | exact Z.at6 | exact Z.at7 | exact Z.at8 | exact Z.at9 | exact Z.at10 | exact Z.at11 | exact Z.at12) (by first | (simp; done) | (simp; omega)) ?_ | refine Z.ZO.storeR rfl rfl hs Try.sizeOf61 rfl rfl rfl (by first | exact SX.at0 | exact SX.at1 | exact SX.at2 | exact SX.at3 | exact SX.at4 | exact SX.at5 | exact Z.at6 | exact Z.at7 | exact Z.at8 | exact Z.at9 | exact Z.at10 | exact Z.at11 | exact Z.at12) (by first | omega | (simp [ints_length]; done) | (simp [ints_length]; omega)) ?_
                                clear hs; intro ws hs
                                simp only [Nat.zero_add, Nat.add_zero, Nat.reduceAdd, Int.reduceToNat, Nat.reduceMul, List.set_cons_zero, List.set_cons_succ, List.setIfInBounds_toArray] at hs
                                refine Z.tkC (C := Z.lv2 _ _ [17, 18, 19, 20, 21, 22]) (i := 19) ⟨⟨_, hs, by first | (simp; done) | exact fun e he => List.mem_append_right _ he⟩, fun h => absurd h (by decide)⟩ ?_
                                refine Z.forkC [20] rfl (by kernel_rfl) rfl ⟨⟨_, _, rfl, rfl, trivial, ?_⟩, trivial⟩
                                refine Z.ZO.quiet rfl (by rfl) (Z.keepS hs) (Z.Yd.nilc rfl rfl) ?_
                                refine Z.tkC (C := Z.lv2 _ _ [17, 18, 19, 20, 21, 22]) (i := 20) ⟨⟨_, hs, by first | (simp; done) | exact fun e he => List.mem_append_right _ he⟩, fun h => absurd h (by decide)⟩ ?_
                                refine Z.forkC [21] rfl (by kernel_rfl) rfl ⟨⟨_, _, rfl, rfl, trivial, ?_⟩, trivial⟩
                                refine Z.ZO.quiet rfl (by rfl) (Z.keepS hs) (Z.Yd.fieldA (m := 1) rfl (by kernel_rfl)) ?_
                                refine Z.tkC (C := Z.lv2 _ _ [17, 18, 19, 20, 21, 22]) (i := 21) ⟨⟨_, hs, by first | (simp; done) | exact fun e he => List.mem_append_right _ he⟩, fun h => absurd h (by decide)⟩ ?_
                                refine Z.forkC [22] rfl (by kernel_rfl) rfl ⟨⟨_, _, rfl, rfl, trivial, ?_⟩, trivial⟩
                                first | refine Z.ZO.store rfl rfl hs Try.sizeOf28 rfl rfl rfl (by first | exact SX.at0 | exact SX.at1 | exact SX.at2 | exact SX.at3 | exact SX.at4 | exact SX.at5 | exact Z.at6 | exact Z.at7 | exact Z.at8 | exact Z.at9 | exact Z.at10 | exact Z.at11 | exact Z.at12) (by first | (simp; done) | (simp; omega)) ?_ | refine Z.ZO.storeR rfl rfl hs Try.sizeOf28 rfl rfl rfl (by first | exact SX.at0 | exact SX.at1 | exact SX.at2 | exact SX.at3 | exact SX.at4 | exact SX.at5 | exact Z.at6 | exact Z.at7 | exact Z.at8 | exact Z.at9 | exact Z.at10 | exact Z.at11 | exact Z.at12) (by first | omega | (simp [ints_length]; done) | (simp [ints_length]; omega)) ?_
                                clear hs; intro ws hs
                                simp only [Nat.zero_add, Nat.add_zero, Nat.reduceAdd, Int.reduceToNat, Nat.reduceMul, List.set_cons_zero, List.set_cons_succ, List.setIfInBounds_toArray] at hs
                                refine Z.tkC (C := Z.lv2 _ _ [17, 18, 19, 20, 21, 22]) (i := 22) ⟨⟨_, hs, by first | (simp; done) | exact fun e he => List.mem_append_right _ he⟩, fun h => absurd h (by decide)⟩ ?_
                                refine Z.tdC (by rfl) (by kernel_rfl) ?_
                                refine Z.only [0, 4, 18, 19, 20] rfl ?_
                                refine Z.nblock ?_
                                refine Z.nthen ?_
                                refine Z.region ?_
                                have e1 : ((ls.take (i + 1)).map fun x => (x, (0 : Int))).flatMap chC = ((ls.take i).map fun x => (x, (0 : Int))).flatMap chC ++ [.int .i64 xi.id, .int .i64 xi.pr, .int .i64 xi.rt, .int .i64 xi.dp, .int .i64 xi.gr, .int .i64 0] := by
                                  rw [htk, List.map_append, List.flatMap_append]
                                  rfl
                                have e2 : ints .i64 (natI (List.range (i + 1))) = ints .i64 (natI (List.range i)) ++ [.int .i64 (i : Int)] := by
                                  rw [List.range_succ]
                                  simp [natI, ints]
                                simp only [List.map_take] at e1 hs
                                refine Z.l rfl rfl (by rfl) (Z.keepS hs) (Z.Yd.add rfl rfl (fun hG => Z.wi64 (by first | omega | (have hG' := Z.gh rfl hG; simp at hG'; omega)))) ?_
                                refine Z.lb 1 rfl ?_
                                refine Z.lnil ?_
                                refine Z.only [0, 4, 18, 19, 20] rfl ?_
                                refine Z.nthen ?_
                                exact Z.again (i + 1, _, _) (by refine ⟨?_, ?_, ?_, ?_, ?_, trivial⟩ <;> (first | rfl | (refine Z.lookv rfl ?_; simp; done) | (refine Z.lookv rfl ?_; simp; omega))) ⟨⟨by simp only; omega, hids2⟩, by simp only [List.map_take]; rw [e1, e2]; exact hs.sel [1, 2, 3, 4] (by decide)⟩ (by simp only; omega)
                            · skip
                              refine Z.ZO.litL (T' := 3) [(0, 1)] [.int .i64 0] rfl rfl (by rfl) rfl rfl (by intro W; kernel_rfl) hs ?_
                              clear hs; intro g46 w46 hs
                              refine Z.tkC (C := Z.lv2 _ _ [17, 18, 19, 20, 21, 22]) (i := 15) ⟨⟨_, hs, by first | (simp; done) | exact fun e he => List.mem_append_right _ he⟩, fun _ => ⟨_, hs, by first | (simp; done) | exact fun e he => List.mem_append_right _ he⟩⟩ ?_
                              refine Z.forkC [8] rfl (by kernel_rfl) rfl ⟨⟨_, _, rfl, rfl, trivial, ?_⟩, trivial⟩
                              refine Z.ZO.litL (T' := 72) [(0, 6)] [.int .i64 0, .int .i64 0, .int .i64 0, .int .i64 0, .int .i64 0, .int .i64 0] rfl rfl (by rfl) rfl rfl (by intro W; kernel_rfl) hs ?_
                              clear hs; intro g39 w39 hs
                              refine Z.tkC (C := Z.lv2 _ _ [17, 18, 19, 20, 21, 22]) (i := 8) ⟨⟨_, hs, by first | (simp; done) | exact fun e he => List.mem_append_right _ he⟩, fun _ => ⟨_, hs, by first | (simp; done) | exact fun e he => List.mem_append_right _ he⟩⟩ ?_
                              refine Z.forkC [9] rfl (by kernel_rfl) rfl ⟨⟨_, _, rfl, rfl, trivial, ?_⟩, trivial⟩
                              refine Z.ZO.append (i0 := Try.t72) (size := 6) (bytes := 48) rfl rfl (by rfl) hs Try.underlying61 (by kernel_rfl) rfl rfl rfl rfl (by decide) rfl rfl (by first | exact SX.at0 | exact SX.at1 | exact SX.at2 | exact SX.at3 | exact SX.at4 | exact SX.at5 | exact Z.at6 | exact Z.at7 | exact Z.at8 | exact Z.at9 | exact Z.at10 | exact Z.at11 | exact Z.at12) (by first | exact SX.at0 | exact SX.at1 | exact SX.at2 | exact SX.at3 | exact SX.at4 | exact SX.at5 | exact Z.at6 | exact Z.at7 | exact Z.at8 | exact Z.at9 | exact Z.at10 | exact Z.at11 | exact Z.at12) (by first | rfl | simp) (by simp [Value.oneCell']) (by decide) (by unfold maxLen; omega) (by omega) ?_
                              clear hs; intro g40 cap40 w40 hs
                              simp only [List.set_cons_zero, List.set_cons_succ, List.eraseIdx_cons_zero, List.eraseIdx_cons_succ] at hs
                              refine Z.tkC (C := Z.lv2 _ _ [17, 18, 19, 20, 21, 22]) (i := 9) ⟨⟨_, hs, by first | (simp; done) | exact fun e he => List.mem_append_right _ he⟩, fun _ => ⟨_, hs, by first | (simp; done) | exact fun e he => List.mem_append_right _ he⟩⟩ ?_
                              refine Z.forkC [16] rfl (by kernel_rfl) rfl ⟨⟨_, _, rfl, rfl, trivial, ?_⟩, trivial⟩
                              refine Z.ZO.append (i0 := Try.t3) (size := 1) (bytes := 8) rfl rfl (by rfl) hs Try.underlying28 (by kernel_rfl) rfl rfl rfl rfl (by decide) rfl rfl (by first | exact SX.at0 | exact SX.at1 | exact SX.at2 | exact SX.at3 | exact SX.at4 | exact SX.at5 | exact Z.at6 | exact Z.at7 | exact Z.at8 | exact Z.at9 | exact Z.at10 | exact Z.at11 | exact Z.at12) (by first | exact SX.at0 | exact SX.at1 | exact SX.at2 | exact SX.at3 | exact SX.at4 | exact SX.at5 | exact Z.at6 | exact Z.at7 | exact Z.at8 | exact Z.at9 | exact Z.at10 | exact Z.at11 | exact Z.at12) (by first | rfl | simp) (by simp [Value.oneCell']) (by decide) (by unfold maxLen; omega) (by omega) ?_
                              clear hs; intro g47 cap47 w47 hs
                              simp only [List.set_cons_zero, List.set_cons_succ, List.eraseIdx_cons_zero, List.eraseIdx_cons_succ] at hs
                              refine Z.tkC (C := Z.lv2 _ _ [17, 18, 19, 20, 21, 22]) (i := 16) ⟨⟨_, hs, by first | (simp; done) | exact fun e he => List.mem_append_right _ he⟩, fun _ => ⟨_, hs, by first | (simp; done) | exact fun e he => List.mem_append_right _ he⟩⟩ ?_
                              refine Z.forkC [17] rfl (by kernel_rfl) rfl ⟨⟨_, _, rfl, rfl, trivial, ?_⟩, trivial⟩
                              refine Z.ZO.quiet rfl (by rfl) (Z.keepS hs) (Z.Yd.nilc rfl rfl) ?_
                              refine Z.tkC (C := Z.lv2 _ _ [17, 18, 19, 20, 21, 22]) (i := 17) ⟨⟨_, hs, by first | (simp; done) | exact fun e he => List.mem_append_right _ he⟩, fun h => absurd h (by decide)⟩ ?_
                              refine Z.forkC [18] rfl (by kernel_rfl) rfl ⟨⟨_, _, rfl, rfl, trivial, ?_⟩, trivial⟩
                              refine Z.ZO.quiet rfl (by rfl) (Z.keepS hs) (Z.Yd.fieldA (m := 0) rfl (by kernel_rfl)) ?_
                              refine Z.tkC (C := Z.lv2 _ _ [17, 18, 19, 20, 21, 22]) (i := 18) ⟨⟨_, hs, by first | (simp; done) | exact fun e he => List.mem_append_right _ he⟩, fun h => absurd h (by decide)⟩ ?_
                              refine Z.forkC [19] rfl (by kernel_rfl) rfl ⟨⟨_, _, rfl, rfl, trivial, ?_⟩, trivial⟩
                              first | refine Z.ZO.store rfl rfl hs Try.sizeOf61 rfl rfl rfl (by first | exact SX.at0 | exact SX.at1 | exact SX.at2 | exact SX.at3 | exact SX.at4 | exact SX.at5 | exact Z.at6 | exact Z.at7 | exact Z.at8 | exact Z.at9 | exact Z.at10 | exact Z.at11 | exact Z.at12) (by first | (simp; done) | (simp; omega)) ?_ | refine Z.ZO.storeR rfl rfl hs Try.sizeOf61 rfl rfl rfl (by first | exact SX.at0 | exact SX.at1 | exact SX.at2 | exact SX.at3 | exact SX.at4 | exact SX.at5 | exact Z.at6 | exact Z.at7 | exact Z.at8 | exact Z.at9 | exact Z.at10 | exact Z.at11 | exact Z.at12) (by first | omega | (simp [ints_length]; done) | (simp [ints_length]; omega)) ?_
                              clear hs; intro ws hs
                              simp only [Nat.zero_add, Nat.add_zero, Nat.reduceAdd, Int.reduceToNat, Nat.reduceMul, List.set_cons_zero, List.set_cons_succ, List.setIfInBounds_toArray] at hs
                              refine Z.tkC (C := Z.lv2 _ _ [17, 18, 19, 20, 21, 22]) (i := 19) ⟨⟨_, hs, by first | (simp; done) | exact fun e he => List.mem_append_right _ he⟩, fun h => absurd h (by decide)⟩ ?_
                              refine Z.forkC [20] rfl (by kernel_rfl) rfl ⟨⟨_, _, rfl, rfl, trivial, ?_⟩, trivial⟩
                              refine Z.ZO.quiet rfl (by rfl) (Z.keepS hs) (Z.Yd.nilc rfl rfl) ?_
                              refine Z.tkC (C := Z.lv2 _ _ [17, 18, 19, 20, 21, 22]) (i := 20) ⟨⟨_, hs, by first | (simp; done) | exact fun e he => List.mem_append_right _ he⟩, fun h => absurd h (by decide)⟩ ?_
                              refine Z.forkC [21] rfl (by kernel_rfl) rfl ⟨⟨_, _, rfl, rfl, trivial, ?_⟩, trivial⟩
                              refine Z.ZO.quiet rfl (by rfl) (Z.keepS hs) (Z.Yd.fieldA (m := 1) rfl (by kernel_rfl)) ?_
                              refine Z.tkC (C := Z.lv2 _ _ [17, 18, 19, 20, 21, 22]) (i := 21) ⟨⟨_, hs, by first | (simp; done) | exact fun e he => List.mem_append_right _ he⟩, fun h => absurd h (by decide)⟩ ?_
                              refine Z.forkC [22] rfl (by kernel_rfl) rfl ⟨⟨_, _, rfl, rfl, trivial, ?_⟩, trivial⟩
                              first | refine Z.ZO.store rfl rfl hs Try.sizeOf28 rfl rfl rfl (by first | exact SX.at0 | exact SX.at1 | exact SX.at2 | exact SX.at3 | exact SX.at4 | exact SX.at5 | exact Z.at6 | exact Z.at7 | exact Z.at8 | exact Z.at9 | exact Z.at10 | exact Z.at11 | exact Z.at12) (by first | (simp; done) | (simp; omega)) ?_ | refine Z.ZO.storeR rfl rfl hs Try.sizeOf28 rfl rfl rfl (by first | exact SX.at0 | exact SX.at1 | exact SX.at2 | exact SX.at3 | exact SX.at4 | exact SX.at5 | exact Z.at6 | exact Z.at7 | exact Z.at8 | exact Z.at9 | exact Z.at10 | exact Z.at11 | exact Z.at12) (by first | omega | (simp [ints_length]; done) | (simp [ints_length]; omega)) ?_
                              clear hs; intro ws hs
                              simp only [Nat.zero_add, Nat.add_zero, Nat.reduceAdd, Int.reduceToNat, Nat.reduceMul, List.set_cons_zero, List.set_cons_succ, List.setIfInBounds_toArray] at hs
                              refine Z.tkC (C := Z.lv2 _ _ [17, 18, 19, 20, 21, 22]) (i := 22) ⟨⟨_, hs, by first | (simp; done) | exact fun e he => List.mem_append_right _ he⟩, fun h => absurd h (by decide)⟩ ?_
                              refine Z.tdC (by rfl) (by kernel_rfl) ?_
                              refine Z.only [0, 4, 18, 19, 20] rfl ?_
                              refine Z.nblock ?_
                              refine Z.nthen ?_
                              refine Z.region ?_
                              have e1 : ((ls.take (i + 1)).map fun x => (x, (0 : Int))).flatMap chC = ((ls.take i).map fun x => (x, (0 : Int))).flatMap chC ++ [.int .i64 xi.id, .int .i64 xi.pr, .int .i64 xi.rt, .int .i64 xi.dp, .int .i64 xi.gr, .int .i64 0] := by
                                rw [htk, List.map_append, List.flatMap_append]
                                rfl
                              have e2 : ints .i64 (natI (List.range (i + 1))) = ints .i64 (natI (List.range i)) ++ [.int .i64 (i : Int)] := by
                                rw [List.range_succ]
                                simp [natI, ints]
                              simp only [List.map_take] at e1 hs
                              refine Z.l rfl rfl (by rfl) (Z.keepS hs) (Z.Yd.add rfl rfl (fun hG => Z.wi64 (by first | omega | (have hG' := Z.gh rfl hG; simp at hG'; omega)))) ?_
                              refine Z.lb 1 rfl ?_
                              refine Z.lnil ?_
                              refine Z.only [0, 4, 18, 19, 20] rfl ?_
                              refine Z.nthen ?_
                              exact Z.again (i + 1, _, _) (by refine ⟨?_, ?_, ?_, ?_, ?_, trivial⟩ <;> (first | rfl | (refine Z.lookv rfl ?_; simp; done) | (refine Z.lookv rfl ?_; simp; omega))) ⟨⟨by simp only; omega, hids2⟩, by simp only [List.map_take]; rw [e1, e2]; exact hs.sel [1, 2, 3, 4] (by decide)⟩ (by simp only; omega)
                            )
                      )
                · first
                    | (exfalso; simp at hc5 <;> omega)
                    | (
                      (try simp at hc5)
                      refine Z.exit ?_
                      refine Z.xthen ?_
                      refine Z.xthen ?_
                      refine Z.xblock ?_
                      refine Z.nthen ?_
                      refine Z.seq ?_
                      refine Z.region ?_
                      obtain rfl : i = ls.length := by omega
                      rw [List.take_length] at hids hs
                      have hset : okSet ls := ⟨by omega, hlg, hids⟩
                      obtain ⟨gr, cr, rfl, hcr⟩ := row_form hs (j := 3) rfl (by omega)
                      obtain ⟨Ac, cc, rfl, -, -, -⟩ := SX.row_slv hs (j := 2) rfl
                      have hmem : ∀ x ∈ natI (List.range ls.length), ∃ i : Nat, i < ls.length ∧ x = (i : Int) := fun x hx => by
                        simp only [natI, List.mem_map, List.mem_range] at hx
                        obtain ⟨i, hi, rfl⟩ := hx
                        exact ⟨i, hi, rfl⟩
                      refine Z.l rfl rfl (by rfl) (Z.keepS hs) (by first | exact Z.Yd.load rfl Try.isAgg24 (fun _ => Z.cellB (by first | ((repeat (first | exact List.mem_cons_self | refine List.mem_cons_of_mem _ ?_ | refine List.mem_append_right _ ?_)); done) | fail) rfl) | exact Z.Yd.load rfl Try.isAgg24 (fun _ => Z.cellO (by assumption) (by simp) (by assumption)) | fail "load 10.0") ?_
                      refine Z.l rfl rfl (by rfl) (Z.keepS hs) (Z.Yd.nilc rfl rfl) ?_
                      refine Z.l rfl rfl (by rfl) (Z.keepS hs) (Z.Yd.fieldA (m := 1) rfl (by kernel_rfl)) ?_
                      refine Z.l rfl rfl (by rfl) (Z.keepS hs) (by first | exact Z.Yd.load rfl Try.isAgg28 (fun _ => Z.cellB (by first | ((repeat (first | exact List.mem_cons_self | refine List.mem_cons_of_mem _ ?_ | refine List.mem_append_right _ ?_)); done) | fail) rfl) | exact Z.Yd.load rfl Try.isAgg28 (fun _ => Z.cellO (by assumption) (by simp) (by assumption)) | fail "load 10.3") ?_
                      refine Z.lb 1 rfl ?_
                      replace hs : SX.St w [] _ ([SX.Ent.row _ 3 1 ls.length (ints .i64 (natI (List.range ls.length)))] ++ [SX.Ent.blk g4 24 #[.pointer (some ⟨g17, 0, none⟩)], SX.Ent.blk g17 63 #[.slice Ac ls.length cc, .slice (some ⟨gr, 0, none⟩) ls.length cr, .int .i64 0], SX.Ent.row _ 72 6 ls.length (List.flatMap chC (List.map (fun x => (x, (0 : Int))) ls))]) := hs.sel [3, 0, 1, 2] (by decide)
                      refine Z.le rfl trivial ?_
                      refine Z.ZO.call rfl rfl (by rfl) rfl rfl Try.call32 rfl (sortfunc gr ls.length cr 3 33 _ (key ls) (natI (List.range ls.length)) _ hs.lend (by simp [natI]) (by omega) (by omega) Try.call33 (fun x hx y hy W L hW ↦ bk_new2 g4 g17 ls.length cc Ac (.slice (some ⟨gr, 0, none⟩) ls.length cr) (.int .i64 0) ls x y W ((hs.regain hW).celOf (T := 24) (by simp)) ((hs.regain hW).celOf (T := 63) (cs := [_, _, _]) (by simp)) ((hs.regain hW).slm (T := 72) (size := 6) (k := ls.length) (c := cc) (m := ls.length) (by simp)) rfl hset (hmem x hx) (hmem y hy))) ?_
                      rintro v10_5 w10_5 ⟨rfl, ys, hp, hS, hz⟩
                      replace hs := hs.regain hz
                      obtain rfl := ord_unique hset hp hS
                      simp only [List.cons_append, List.nil_append] at hs
                      refine Z.lnil ?_
                      refine Z.only [4] rfl ?_
                      refine Z.nthen ?_
                      refine Z.seq ?_
                      refine Z.seq ?_
                      refine Z.region ?_
                      refine Z.l rfl rfl (by rfl) (Z.keepS hs) (by first | exact Z.Yd.load rfl Try.isAgg24 (fun _ => Z.cellB (by first | ((repeat (first | exact List.mem_cons_self | refine List.mem_cons_of_mem _ ?_ | refine List.mem_append_right _ ?_)); done) | fail) rfl) | exact Z.Yd.load rfl Try.isAgg24 (fun _ => Z.cellO (by assumption) (by simp) (by assumption)) | fail "load 11.0") ?_
                      refine Z.lb 2 rfl ?_
                      refine Z.lnil ?_
                      refine Z.only [2, 3] rfl ?_
                      refine Z.nthen ?_
                      refine Z.ret ?_
                      repeat (first | refine Z.rthen ?_ | refine Z.rblock ?_ | refine Z.rscope ?_ | refine Z.rjump ?_)
                      -- ret#0
                      refine Z.out2 (by exact ⟨rfl, rfl, trivial⟩) ?_
                      first
                      | exact ⟨_, rfl, by dsimp only; rw [if_neg hno]; exact ⟨rfl, hs⟩⟩
                      | (refine ⟨_, rfl, ?_⟩
                         dsimp only
                         rw [if_pos hset]
                         refine ⟨g17, .slice Ac ls.length cc, .slice (some ⟨gr, 0, none⟩) ls.length cr, rfl, ?_⟩
                         unfold bkE
                         rw [newB_chs]
                         exact hs.sel [2, 3, 0] (by decide))
                      )
                )
          )
    · first
        | (exfalso; simp at hsp11 <;> omega)
        | (
          refine Z.yes (s := 11) (b := false) rfl hsp11 rfl ?_
          (try simp at hsp11)
          refine Z.lb 1 rfl ?_
          refine Z.yes (s := 11) (b := false) rfl rfl rfl ?_
          refine Z.le rfl (by exact ⟨rfl, trivial⟩) ?_
          refine Z.ZO.call rfl rfl (by rfl) rfl rfl Try.call28 rfl (bk_everyL A n c ls 29 _ (fun x ↦ decide (okLg x)) _ (hx.st (hs.sub (List.nil_sublist _))) hl hn Try.call29 (fun x W hW ↦ bk_valid x W)) ?_
          rintro v2_6 w2_6 ⟨rfl, hy⟩
          replace hs := hs.call hy
          clear hy
          try simp only [List.cons_append, List.nil_append, List.append_nil] at hs
          refine Z.lb 1 rfl ?_
          refine Z.yes (s := 11) (b := false) rfl rfl rfl ?_
          refine Z.l rfl rfl (by rfl) (Z.keepS hs) (Z.Yd.pickF rfl rfl) ?_
          refine Z.lnil ?_
          refine Z.only [0, 4, 15] rfl ?_
          refine Z.nthen ?_
          refine Z.cond rfl (fun hc2 => ?_) (fun hc2 => ?_)
          · first
              | (exfalso; simp at hc2 <;> omega)
              | (
                (try simp at hc2)
                have hno : ¬ okSet ls := by rintro ⟨h1, h2, -⟩; first | omega | (obtain ⟨x, hx1, hx2⟩ := hc2; exact hx2 (h2 x hx1))
                refine Z.goto ?_
                refine Z.gthen ?_
                refine Z.gjump ?_
                exact Z.meet () trivial ⟨by assumption, hs.sub (List.nil_sublist _)⟩
                )
          · first
              | (exfalso; simp at hc2 <;> omega)
              | (
                (try simp at hc2)
                have hn1 : 1 ≤ n ∧ n ≤ 10 := by omega
                have hlg : ∀ x ∈ ls, okLg x := by simp_all
                obtain ⟨bb, off, rfl, hb0, hx2⟩ := Z.Sl.some hx (by rw [flat_len lg_len]; omega)
                refine Z.skip ?_
                refine Z.nthen ?_
                refine Z.seq ?_
                refine Z.region ?_
                refine Z.l rfl rfl (by rfl) (Z.keepS hs) (Z.Yd.buildL [(0, 1), (1, 1), (2, 1)] [.slice none 0 0, .slice none 0 0, .int .i64 0] rfl rfl (by intro w; kernel_rfl)) ?_
                refine Z.le rfl trivial ?_
                refine Z.ZO.box rfl rfl (by rfl) rfl rfl hs ?_
                clear hs; intro g17 w17 hs
                refine Z.le rfl trivial ?_
                first | refine Z.ZO.store rfl rfl hs Try.sizeOf24 rfl rfl rfl (by first | exact SX.at0 | exact SX.at1 | exact SX.at2 | exact SX.at3 | exact SX.at4 | exact SX.at5 | exact Z.at6 | exact Z.at7 | exact Z.at8 | exact Z.at9 | exact Z.at10 | exact Z.at11 | exact Z.at12) (by first | (simp; done) | (simp; omega)) ?_ | refine Z.ZO.storeR rfl rfl hs Try.sizeOf24 rfl rfl rfl (by first | exact SX.at0 | exact SX.at1 | exact SX.at2 | exact SX.at3 | exact SX.at4 | exact SX.at5 | exact Z.at6 | exact Z.at7 | exact Z.at8 | exact Z.at9 | exact Z.at10 | exact Z.at11 | exact Z.at12) (by first | omega | (simp [ints_length]; done) | (simp [ints_length]; omega)) ?_
                clear hs; intro ws hs
                simp only [Nat.zero_add, Nat.add_zero, Nat.reduceAdd, Int.reduceToNat, Nat.reduceMul, List.set_cons_zero, List.set_cons_succ, List.setIfInBounds_toArray] at hs
                refine Z.lnil ?_
                refine Z.only [0, 4] rfl ?_
                refine Z.nthen ?_
                refine Z.seq ?_
                refine Z.seq ?_
                refine Z.region ?_
                replace hs : SX.St w [] _ [SX.Ent.blk g4 _ _, SX.Ent.blk g17 _ _, SX.Ent.row _ _ _ _ _, SX.Ent.row _ _ _ _ _] := ((hs.nil 3 1).nil 72 6).sel [3, 2, 0, 1] (by decide)
                refine Z.l rfl rfl (by rfl) (Z.keepS hs) (Z.Yd.pure rfl) ?_
                refine Z.l rfl rfl (by rfl) (Z.keepS hs) (Z.Yd.lenS rfl Try.underlying22) ?_
                refine Z.lb 1 rfl ?_
                refine Z.lnil ?_
                refine Z.only [0, 4, 18, 19, 20] rfl ?_
                refine Z.nthen ?_
                refine Z.block ?_
                refine Z.loopk (ι := Nat × Value × Value) [0, 4, 18, 19] rfl (fun x => [(20, [], .int .i64 (x.1 : Int))]) (fun x wr => (x.1 ≤ n ∧ ids (ls.take x.1)) ∧ SX.St w [] wr [SX.Ent.blk g4 24 #[.pointer (some ⟨g17, 0, none⟩)], SX.Ent.blk g17 63 #[x.2.1, x.2.2, .int .i64 0], SX.Ent.row x.2.1 72 6 x.1 (((ls.take x.1).map fun x => (x, (0 : Int))).flatMap chC), SX.Ent.row x.2.2 3 1 x.1 (ints .i64 (natI (List.range x.1)))]) (fun x => n - x.1) (0, .slice none 0 0, .slice none 0 0) (by refine ⟨?_, trivial⟩ <;> (first | rfl | (refine Z.lookv rfl ?_; simp; done) | (refine Z.lookv rfl ?_; simp; omega))) ⟨⟨by simp only; omega, by simp [ids]⟩, hs⟩ ?_
                clear hs
                rintro ⟨i, sv, so⟩ w5 ⟨⟨hi, hids⟩, hs⟩
                refine Z.only [0, 4, 18, 19, 20] rfl ?_
                (try dsimp only at hs)
                dsimp only at hi hids hs
                refine Z.seq ?_
                refine Z.region ?_
                refine Z.lb 1 rfl ?_
                refine Z.lnil ?_
                refine Z.only [0, 4, 18, 19, 20, 21] rfl ?_
                refine Z.nthen ?_
                refine Z.seq ?_
                refine Z.cond rfl (fun hc5 => ?_) (fun hc5 => ?_)
                · first
                    | (exfalso; simp at hc5 <;> omega)
                    | (
                      (try simp at hc5)
                      have hlt : i < ls.length := by omega
                      have hel : ls[i]? = some ls[i] := List.getElem?_eq_getElem hlt
                      have hpre := any_prefix hlt hids
                      generalize ls[i] = xi at hel hpre
                      have hone := lg_one xi
                      have htk : ls.take (i + 1) = ls.take i ++ [xi] := by rw [List.take_add_one, hel]; rfl
                      refine Z.skip ?_
                      refine Z.nthen ?_
                      refine Z.seq ?_
                      refine Z.block ?_
                      refine Z.seq ?_
                      refine Z.region ?_
                      refine Z.lb 1 rfl ?_
                      refine Z.l rfl rfl (by rfl) (Z.keepS hs) (Z.Yd.elem rfl rfl Try.underlying22 Try.sizeOf38 (fun hG => ⟨(by first | omega | (have hG' := Z.gh rfl hG; simp at hG'; omega)), (by first | omega | (have hG' := Z.gh rfl hG; simp at hG'; omega))⟩)) ?_
                      refine Z.l rfl rfl (by rfl) (Z.keepS hs) (Z.Yd.loadA _ rfl Try.isAgg38 (fun _ W hK j u hu => Z.cellXq (enc := LgV.cells) hx2.sx lg_len hel hu W hK) (by exact Try.sizeOf38)) ?_
                      refine Z.le rfl trivial ?_
                      refine Z.ZO.alloc rfl rfl (by rfl) Try.zeroValue38 rfl hs ?_
                      clear hs; intro g6 w6 hs
                      refine Z.lb 1 rfl ?_
                      refine Z.le rfl trivial ?_
                      first | refine Z.ZO.storeA rfl rfl hs rfl rfl (by kernel_rfl) (by first | (simp [Value.oneCell']; done) | (refine Z.all_one ?_; assumption)) (by first | exact SX.at0 | exact SX.at1 | exact SX.at2 | exact SX.at3 | exact SX.at4 | exact SX.at5 | exact Z.at6 | exact Z.at7 | exact Z.at8 | exact Z.at9 | exact Z.at10 | exact Z.at11 | exact Z.at12) (by rfl) ?_ | refine Z.ZO.storeP rfl rfl hs rfl rfl (by kernel_rfl) (by first | (simp [Value.oneCell']; done) | (refine Z.all_one ?_; assumption)) (by first | exact SX.at0 | exact SX.at1 | exact SX.at2 | exact SX.at3 | exact SX.at4 | exact SX.at5 | exact Z.at6 | exact Z.at7 | exact Z.at8 | exact Z.at9 | exact Z.at10 | exact Z.at11 | exact Z.at12) (by first | decide | (simp; done) | (simp; omega)) ?_ | refine Z.ZO.storePR rfl rfl hs rfl rfl (by kernel_rfl) (by first | (simp [Value.oneCell']; done) | (refine Z.all_one ?_; assumption)) (by first | exact SX.at0 | exact SX.at1 | exact SX.at2 | exact SX.at3 | exact SX.at4 | exact SX.at5 | exact Z.at6 | exact Z.at7 | exact Z.at8 | exact Z.at9 | exact Z.at10 | exact Z.at11 | exact Z.at12) (by first | decide | (simp; done) | (simp; omega)) ?_
                      clear hs; intro ws hs
                      simp only [Nat.zero_add, Nat.add_zero, Nat.reduceAdd, Int.reduceToNat, Nat.reduceMul, List.set_cons_zero, List.set_cons_succ, List.setIfInBounds_toArray] at hs
                      try simp only [Z.putL, Nat.zero_add] at hs
                      refine Z.lnil ?_
                      refine Z.only [0, 4, 5, 6, 18, 19, 20] rfl ?_
                      refine Z.nthen ?_
                      refine Z.seq ?_
                      refine Z.seq ?_
                      refine Z.region ?_
                      refine Z.lb 3 rfl ?_
                      refine Z.l rfl rfl (by rfl) (Z.keepS hs) (Z.Yd.cut3 0 i i rfl rfl rfl rfl Try.underlying22 Try.sizeOf38 (fun hG => ⟨(by first | omega | (have hG' := Z.gh rfl hG; simp at hG'; omega)), (by first | omega | (have hG' := Z.gh rfl hG; simp at hG'; omega)), (by first | omega | (have hG' := Z.gh rfl hG; simp at hG'; omega)), (by first | omega | (have hG' := Z.gh rfl hG; simp at hG'; omega)), (by first | omega | (have hG' := Z.gh rfl hG; simp at hG'; omega))⟩)) ?_
                      refine Z.lb 1 rfl ?_
                      refine Z.le rfl trivial ?_
                      refine Z.ZO.call rfl rfl (by rfl) rfl rfl Try.call30 rfl (bk_containsL _ i i (ls.take i) 31 _ (fun y ↦ decide (y.id = xi.id)) _ (by rw [slA_zero]; exact Sl.pre (hx2.st hs) (flat_pre _ _ _)) (by simp; omega) (by omega) Try.call31 (fun y W hW ↦ bk_new1 g6 xi y W (Cel.st (hs.celOf (by first | ((repeat (first | exact List.mem_cons_self | refine List.mem_cons_of_mem _ ?_ | refine List.mem_append_right _ ?_)); done) | fail)) hW))) ?_
                      rintro v7_5 w7_5 ⟨rfl, hy⟩
                      replace hs := hs.call hy
                      clear hy
                      try simp only [List.cons_append, List.nil_append, List.append_nil] at hs
                      refine Z.lnil ?_
                      refine Z.only [0, 4, 5, 6, 18, 19, 20, 30] rfl ?_
                      refine Z.nthen ?_
                      refine Z.cond rfl (fun hc7 => ?_) (fun hc7 => ?_)
                      · first
                          | (exfalso; simp at hc7 <;> omega)
                          | (
                            (try simp at hc7)
                            have hno : ¬ okSet ls := fun h => by
                              have h2 := hpre.1 (h.2.2.sublist (List.take_sublist _ _))
                              obtain ⟨x, hx1, hx3⟩ := hc7
                              have h3 := List.any_eq_false.1 h2 x hx1
                              simp [hx3] at h3
                            refine Z.goto ?_
                            refine Z.gthen ?_
                            refine Z.gblock ?_
                            refine Z.gthen ?_
                            refine Z.gthen ?_
                            refine Z.gblock ?_
                            refine Z.gthen ?_
                            refine Z.gjump ?_
                            exact Z.meet () trivial ⟨by assumption, hs.sub (List.nil_sublist _)⟩
                            )
                      · first
                          | (exfalso; simp at hc7 <;> omega)
                          | (
                            (try simp at hc7)
                            have hids2 := hpre.2 (by simp_all)
                            refine Z.skip ?_
                            refine Z.nthen ?_
                            refine Z.drawC [SX.Ent.blk g6 38 xi.cells.toArray, SX.Ent.blk g4 24 #[.pointer (some ⟨g17, 0, none⟩)]] mixed hs ?_
                            clear hs; intro wd8 hs
                            refine Z.tC1 1 [1, 20, 21, 22] rfl rfl rfl (by rfl) (by kernel_rfl) ⟨_, hs, by first | (simp; done) | exact fun e he => List.mem_append_right _ he⟩ (by first | exact Z.Yd.load rfl Try.isAgg24 (fun _ => Z.cellB (by first | ((repeat (first | exact List.mem_cons_self | refine List.mem_cons_of_mem _ ?_ | refine List.mem_append_right _ ?_)); done) | fail) rfl) | exact Z.Yd.load rfl Try.isAgg24 (fun _ => Z.cellO (by assumption) (by simp) (by assumption)) | fail "load 8.1") ?_
                            refine Z.twoC [SX.Ent.blk g6 38 xi.cells.toArray, SX.Ent.blk g4 24 #[.pointer (some ⟨g17, 0, none⟩)], SX.Ent.blk g17 63 #[sv, so, .int .i64 0]] [17, 18, 19, 20, 21, 22] ?_
                            refine Z.tC2 0 [0, 17, 18, 19, 20, 21, 22] rfl rfl rfl (by rfl) (by kernel_rfl) rfl ⟨_, hs, by first | (simp; done) | exact fun e he => List.mem_append_right _ he⟩ ⟨_, hs, by first | (simp; done) | exact fun e he => List.mem_append_right _ he⟩ (Z.yd2 (by first | exact Z.Yd.load rfl Try.isAgg24 (fun _ => Z.cellB (by first | ((repeat (first | exact List.mem_cons_self | refine List.mem_cons_of_mem _ ?_ | refine List.mem_append_right _ ?_)); done) | fail) rfl) | exact Z.Yd.load rfl Try.isAgg24 (fun _ => Z.cellO (by assumption) (by simp) (by assumption)) | fail "load 8.0")) ?_
                            refine Z.tC2 2 [2, 3, 4, 5, 9, 16, 17, 18, 19, 20, 21, 22] rfl rfl rfl (by rfl) (by kernel_rfl) rfl ⟨_, hs, by first | (simp; done) | exact fun e he => List.mem_append_right _ he⟩ ⟨_, hs, by first | (simp; done) | exact fun e he => List.mem_append_right _ he⟩ (Z.yd2 (by first | exact Z.Yd.load rfl Try.isAgg24 (fun _ => Z.cellB (by first | ((repeat (first | exact List.mem_cons_self | refine List.mem_cons_of_mem _ ?_ | refine List.mem_append_right _ ?_)); done) | fail) rfl) | exact Z.Yd.load rfl Try.isAgg24 (fun _ => Z.cellO (by assumption) (by simp) (by assumption)) | fail "load 8.2")) ?_
                            refine Z.tC2 3 [3, 4, 5, 9, 16, 17, 18, 19, 20, 21, 22] rfl rfl rfl (by rfl) (by kernel_rfl) rfl ⟨_, hs, by first | (simp; done) | exact fun e he => List.mem_append_right _ he⟩ ⟨_, hs, by first | (simp; done) | exact fun e he => List.mem_append_right _ he⟩ (Z.yd2 (Z.Yd.nilc rfl rfl)) ?_
                            refine Z.tC2 4 [4, 5, 9, 16, 17, 18, 19, 20, 21, 22] rfl rfl rfl (by rfl) (by kernel_rfl) rfl ⟨_, hs, by first | (simp; done) | exact fun e he => List.mem_append_right _ he⟩ ⟨_, hs, by first | (simp; done) | exact fun e he => List.mem_append_right _ he⟩ (Z.yd2 (Z.Yd.fieldA (m := 0) rfl (by kernel_rfl))) ?_
                            refine Z.tC2 5 [5, 9, 16, 17, 18, 19, 20, 21, 22] rfl rfl rfl (by rfl) (by kernel_rfl) rfl ⟨_, hs, by first | (simp; done) | exact fun e he => List.mem_append_right _ he⟩ ⟨_, hs, by first | (simp; done) | exact fun e he => List.mem_append_right _ he⟩ (Z.yd2 (by first | exact Z.Yd.load rfl Try.isAgg61 (fun _ => Z.cellB (by first | ((repeat (first | exact List.mem_cons_self | refine List.mem_cons_of_mem _ ?_ | refine List.mem_append_right _ ?_)); done) | fail) rfl) | exact Z.Yd.load rfl Try.isAgg61 (fun _ => Z.cellO (by assumption) (by simp) (by assumption)) | fail "load 8.5")) ?_
                            refine Z.tC2 6 [6, 7, 8, 9, 16, 17, 18, 19, 20, 21, 22] rfl rfl rfl (by rfl) (by kernel_rfl) rfl ⟨_, hs, by first | (simp; done) | exact fun e he => List.mem_append_right _ he⟩ ⟨_, hs, by first | (simp; done) | exact fun e he => List.mem_append_right _ he⟩ (Z.yd2 (Z.Yd.loadA _ rfl Try.isAgg38 (fun _ => Z.cellsB (cs := LgV.cells xi) (by first | ((repeat (first | exact List.mem_cons_self | refine List.mem_cons_of_mem _ ?_ | refine List.mem_append_right _ ?_)); done) | fail)) (by exact Try.sizeOf38))) ?_
                            refine Z.tC2 7 [7, 8, 9, 16, 17, 18, 19, 20, 21, 22] rfl rfl rfl (by rfl) (by kernel_rfl) rfl ⟨_, hs, by first | (simp; done) | exact fun e he => List.mem_append_right _ he⟩ ⟨_, hs, by first | (simp; done) | exact fun e he => List.mem_append_right _ he⟩ (Z.yd2 (Z.Yd.buildL [(0, 5), (5, 1)] [.int .i64 0, .int .i64 0, .int .i64 0, .int .i64 0, .int .i64 0, .int .i64 0] rfl rfl (by intro w; kernel_rfl))) ?_
                            refine Z.tC2 10 [10, 11, 12, 13, 16, 17, 18, 19, 20, 21, 22] rfl rfl rfl (by rfl) (by kernel_rfl) rfl ⟨_, hs, by first | (simp; done) | exact fun e he => List.mem_append_right _ he⟩ ⟨_, hs, by first | (simp; done) | exact fun e he => List.mem_append_right _ he⟩ (Z.yd2 (by first | exact Z.Yd.load rfl Try.isAgg24 (fun _ => Z.cellB (by first | ((repeat (first | exact List.mem_cons_self | refine List.mem_cons_of_mem _ ?_ | refine List.mem_append_right _ ?_)); done) | fail) rfl) | exact Z.Yd.load rfl Try.isAgg24 (fun _ => Z.cellO (by assumption) (by simp) (by assumption)) | fail "load 8.10")) ?_
                            refine Z.tC2 11 [11, 12, 13, 16, 17, 18, 19, 20, 21, 22] rfl rfl rfl (by rfl) (by kernel_rfl) rfl ⟨_, hs, by first | (simp; done) | exact fun e he => List.mem_append_right _ he⟩ ⟨_, hs, by first | (simp; done) | exact fun e he => List.mem_append_right _ he⟩ (Z.yd2 (Z.Yd.nilc rfl rfl)) ?_
                            refine Z.tC2 12 [12, 13, 16, 17, 18, 19, 20, 21, 22] rfl rfl rfl (by rfl) (by kernel_rfl) rfl ⟨_, hs, by first | (simp; done) | exact fun e he => List.mem_append_right _ he⟩ ⟨_, hs, by first | (simp; done) | exact fun e he => List.mem_append_right _ he⟩ (Z.yd2 (Z.Yd.fieldA (m := 1) rfl (by kernel_rfl))) ?_
                            refine Z.tC2 13 [13, 16, 17, 18, 19, 20, 21, 22] rfl rfl rfl (by rfl) (by kernel_rfl) rfl ⟨_, hs, by first | (simp; done) | exact fun e he => List.mem_append_right _ he⟩ ⟨_, hs, by first | (simp; done) | exact fun e he => List.mem_append_right _ he⟩ (Z.yd2 (by first | exact Z.Yd.load rfl Try.isAgg28 (fun _ => Z.cellB (by first | ((repeat (first | exact List.mem_cons_self | refine List.mem_cons_of_mem _ ?_ | refine List.mem_append_right _ ?_)); done) | fail) rfl) | exact Z.Yd.load rfl Try.isAgg28 (fun _ => Z.cellO (by assumption) (by simp) (by assumption)) | fail "load 8.13")) ?_
                            refine Z.tC2 14 [14, 15, 16, 17, 18, 19, 20, 21, 22] rfl rfl rfl (by rfl) (by kernel_rfl) rfl ⟨_, hs, by first | (simp; done) | exact fun e he => List.mem_append_right _ he⟩ ⟨_, hs, by first | (simp; done) | exact fun e he => List.mem_append_right _ he⟩ (Z.yd2 (Z.Yd.pure rfl)) ?_
                            refine Z.forkC [8, 15] rfl (by kernel_rfl) rfl ⟨⟨_, _, rfl, rfl, trivial, ?_⟩, ⟨_, _, rfl, rfl, trivial, ?_⟩, trivial⟩
                            · skip
                              refine Z.ZO.litL (T' := 72) [(0, 6)] [.int .i64 0, .int .i64 0, .int .i64 0, .int .i64 0, .int .i64 0, .int .i64 0] rfl rfl (by rfl) rfl rfl (by intro W; kernel_rfl) hs ?_
                              clear hs; intro g39 w39 hs
                              refine Z.tkC (C := Z.lv2 _ _ [17, 18, 19, 20, 21, 22]) (i := 8) ⟨⟨_, hs, by first | (simp; done) | exact fun e he => List.mem_append_right _ he⟩, fun _ => ⟨_, hs, by first | (simp; done) | exact fun e he => List.mem_append_right _ he⟩⟩ ?_
                              refine Z.forkC [9, 15] rfl (by kernel_rfl) rfl ⟨⟨_, _, rfl, rfl, trivial, ?_⟩, ⟨_, _, rfl, rfl, trivial, ?_⟩, trivial⟩
                              · skip
                                refine Z.ZO.append (i0 := Try.t72) (size := 6) (bytes := 48) rfl rfl (by rfl) hs Try.underlying61 (by kernel_rfl) rfl rfl rfl rfl (by decide) rfl rfl (by first | exact SX.at0 | exact SX.at1 | exact SX.at2 | exact SX.at3 | exact SX.at4 | exact SX.at5 | exact Z.at6 | exact Z.at7 | exact Z.at8 | exact Z.at9 | exact Z.at10 | exact Z.at11 | exact Z.at12) (by first | exact SX.at0 | exact SX.at1 | exact SX.at2 | exact SX.at3 | exact SX.at4 | exact SX.at5 | exact Z.at6 | exact Z.at7 | exact Z.at8 | exact Z.at9 | exact Z.at10 | exact Z.at11 | exact Z.at12) (by first | rfl | simp) (by simp [Value.oneCell']) (by decide) (by unfold maxLen; omega) (by omega) ?_
                                clear hs; intro g40 cap40 w40 hs
                                simp only [List.set_cons_zero, List.set_cons_succ, List.eraseIdx_cons_zero, List.eraseIdx_cons_succ] at hs
                                refine Z.tkC (C := Z.lv2 _ _ [17, 18, 19, 20, 21, 22]) (i := 9) ⟨⟨_, hs, by first | (simp; done) | exact fun e he => List.mem_append_right _ he⟩, fun _ => ⟨_, hs, by first | (simp; done) | exact fun e he => List.mem_append_right _ he⟩⟩ ?_
                                refine Z.forkC [15] rfl (by kernel_rfl) rfl ⟨⟨_, _, rfl, rfl, trivial, ?_⟩, trivial⟩
                                refine Z.ZO.litL (T' := 3) [(0, 1)] [.int .i64 0] rfl rfl (by rfl) rfl rfl (by intro W; kernel_rfl) hs ?_
                                clear hs; intro g46 w46 hs
                                refine Z.tkC (C := Z.lv2 _ _ [17, 18, 19, 20, 21, 22]) (i := 15) ⟨⟨_, hs, by first | (simp; done) | exact fun e he => List.mem_append_right _ he⟩, fun _ => ⟨_, hs, by first | (simp; done) | exact fun e he => List.mem_append_right _ he⟩⟩ ?_
                                refine Z.forkC [16] rfl (by kernel_rfl) rfl ⟨⟨_, _, rfl, rfl, trivial, ?_⟩, trivial⟩
                                refine Z.ZO.append (i0 := Try.t3) (size := 1) (bytes := 8) rfl rfl (by rfl) hs Try.underlying28 (by kernel_rfl) rfl rfl rfl rfl (by decide) rfl rfl (by first | exact SX.at0 | exact SX.at1 | exact SX.at2 | exact SX.at3 | exact SX.at4 | exact SX.at5 | exact Z.at6 | exact Z.at7 | exact Z.at8 | exact Z.at9 | exact Z.at10 | exact Z.at11 | exact Z.at12) (by first | exact SX.at0 | exact SX.at1 | exact SX.at2 | exact SX.at3 | exact SX.at4 | exact SX.at5 | exact Z.at6 | exact Z.at7 | exact Z.at8 | exact Z.at9 | exact Z.at10 | exact Z.at11 | exact Z.at12) (by first | rfl | simp) (by simp [Value.oneCell']) (by decide) (by unfold maxLen; omega) (by omega) ?_
                                clear hs; intro g47 cap47 w47 hs
                                simp only [List.set_cons_zero, List.set_cons_succ, List.eraseIdx_cons_zero, List.eraseIdx_cons_succ] at hs
                                refine Z.tkC (C := Z.lv2 _ _ [17, 18, 19, 20, 21, 22]) (i := 16) ⟨⟨_, hs, by first | (simp; done) | exact fun e he => List.mem_append_right _ he⟩, fun _ => ⟨_, hs, by first | (simp; done) | exact fun e he => List.mem_append_right _ he⟩⟩ ?_
                                refine Z.forkC [17] rfl (by kernel_rfl) rfl ⟨⟨_, _, rfl, rfl, trivial, ?_⟩, trivial⟩
                                refine Z.ZO.quiet rfl (by rfl) (Z.keepS hs) (Z.Yd.nilc rfl rfl) ?_
                                refine Z.tkC (C := Z.lv2 _ _ [17, 18, 19, 20, 21, 22]) (i := 17) ⟨⟨_, hs, by first | (simp; done) | exact fun e he => List.mem_append_right _ he⟩, fun h => absurd h (by decide)⟩ ?_
                                refine Z.forkC [18] rfl (by kernel_rfl) rfl ⟨⟨_, _, rfl, rfl, trivial, ?_⟩, trivial⟩
                                refine Z.ZO.quiet rfl (by rfl) (Z.keepS hs) (Z.Yd.fieldA (m := 0) rfl (by kernel_rfl)) ?_
                                refine Z.tkC (C := Z.lv2 _ _ [17, 18, 19, 20, 21, 22]) (i := 18) ⟨⟨_, hs, by first | (simp; done) | exact fun e he => List.mem_append_right _ he⟩, fun h => absurd h (by decide)⟩ ?_
                                refine Z.forkC [19] rfl (by kernel_rfl) rfl ⟨⟨_, _, rfl, rfl, trivial, ?_⟩, trivial⟩
                                first | refine Z.ZO.store rfl rfl hs Try.sizeOf61 rfl rfl rfl (by first | exact SX.at0 | exact SX.at1 | exact SX.at2 | exact SX.at3 | exact SX.at4 | exact SX.at5 | exact Z.at6 | exact Z.at7 | exact Z.at8 | exact Z.at9 | exact Z.at10 | exact Z.at11 | exact Z.at12) (by first | (simp; done) | (simp; omega)) ?_ | refine Z.ZO.storeR rfl rfl hs Try.sizeOf61 rfl rfl rfl (by first | exact SX.at0 | exact SX.at1 | exact SX.at2 | exact SX.at3 | exact SX.at4 | exact SX.at5 | exact Z.at6 | exact Z.at7 | exact Z.at8 | exact Z.at9 | exact Z.at10 | exact Z.at11 | exact Z.at12) (by first | omega | (simp [ints_length]; done) | (simp [ints_length]; omega)) ?_
                                clear hs; intro ws hs
                                simp only [Nat.zero_add, Nat.add_zero, Nat.reduceAdd, Int.reduceToNat, Nat.reduceMul, List.set_cons_zero, List.set_cons_succ, List.setIfInBounds_toArray] at hs
                                refine Z.tkC (C := Z.lv2 _ _ [17, 18, 19, 20, 21, 22]) (i := 19) ⟨⟨_, hs, by first | (simp; done) | exact fun e he => List.mem_append_right _ he⟩, fun h => absurd h (by decide)⟩ ?_
                                refine Z.forkC [20] rfl (by kernel_rfl) rfl ⟨⟨_, _, rfl, rfl, trivial, ?_⟩, trivial⟩
                                refine Z.ZO.quiet rfl (by rfl) (Z.keepS hs) (Z.Yd.nilc rfl rfl) ?_
                                refine Z.tkC (C := Z.lv2 _ _ [17, 18, 19, 20, 21, 22]) (i := 20) ⟨⟨_, hs, by first | (simp; done) | exact fun e he => List.mem_append_right _ he⟩, fun h => absurd h (by decide)⟩ ?_
                                refine Z.forkC [21] rfl (by kernel_rfl) rfl ⟨⟨_, _, rfl, rfl, trivial, ?_⟩, trivial⟩
                                refine Z.ZO.quiet rfl (by rfl) (Z.keepS hs) (Z.Yd.fieldA (m := 1) rfl (by kernel_rfl)) ?_
                                refine Z.tkC (C := Z.lv2 _ _ [17, 18, 19, 20, 21, 22]) (i := 21) ⟨⟨_, hs, by first | (simp; done) | exact fun e he => List.mem_append_right _ he⟩, fun h => absurd h (by decide)⟩ ?_
                                refine Z.forkC [22] rfl (by kernel_rfl) rfl ⟨⟨_, _, rfl, rfl, trivial, ?_⟩, trivial⟩
                                first | refine Z.ZO.store rfl rfl hs Try.sizeOf28 rfl rfl rfl (by first | exact SX.at0 | exact SX.at1 | exact SX.at2 | exact SX.at3 | exact SX.at4 | exact SX.at5 | exact Z.at6 | exact Z.at7 | exact Z.at8 | exact Z.at9 | exact Z.at10 | exact Z.at11 | exact Z.at12) (by first | (simp; done) | (simp; omega)) ?_ | refine Z.ZO.storeR rfl rfl hs Try.sizeOf28 rfl rfl rfl (by first | exact SX.at0 | exact SX.at1 | exact SX.at2 | exact SX.at3 | exact SX.at4 | exact SX.at5 | exact Z.at6 | exact Z.at7 | exact Z.at8 | exact Z.at9 | exact Z.at10 | exact Z.at11 | exact Z.at12) (by first | omega | (simp [ints_length]; done) | (simp [ints_length]; omega)) ?_
                                clear hs; intro ws hs
                                simp only [Nat.zero_add, Nat.add_zero, Nat.reduceAdd, Int.reduceToNat, Nat.reduceMul, List.set_cons_zero, List.set_cons_succ, List.setIfInBounds_toArray] at hs
                                refine Z.tkC (C := Z.lv2 _ _ [17, 18, 19, 20, 21, 22]) (i := 22) ⟨⟨_, hs, by first | (simp; done) | exact fun e he => List.mem_append_right _ he⟩, fun h => absurd h (by decide)⟩ ?_
                                refine Z.tdC (by rfl) (by kernel_rfl) ?_
                                refine Z.only [0, 4, 18, 19, 20] rfl ?_
                                refine Z.nblock ?_
                                refine Z.nthen ?_
                                refine Z.region ?_
                                have e1 : ((ls.take (i + 1)).map fun x => (x, (0 : Int))).flatMap chC = ((ls.take i).map fun x => (x, (0 : Int))).flatMap chC ++ [.int .i64 xi.id, .int .i64 xi.pr, .int .i64 xi.rt, .int .i64 xi.dp, .int .i64 xi.gr, .int .i64 0] := by
                                  rw [htk, List.map_append, List.flatMap_append]
                                  rfl
                                have e2 : ints .i64 (natI (List.range (i + 1))) = ints .i64 (natI (List.range i)) ++ [.int .i64 (i : Int)] := by
                                  rw [List.range_succ]
                                  simp [natI, ints]
                                simp only [List.map_take] at e1 hs
                                refine Z.l rfl rfl (by rfl) (Z.keepS hs) (Z.Yd.add rfl rfl (fun hG => Z.wi64 (by first | omega | (have hG' := Z.gh rfl hG; simp at hG'; omega)))) ?_
                                refine Z.lb 1 rfl ?_
                                refine Z.lnil ?_
                                refine Z.only [0, 4, 18, 19, 20] rfl ?_
                                refine Z.nthen ?_
                                exact Z.again (i + 1, _, _) (by refine ⟨?_, ?_, ?_, ?_, ?_, trivial⟩ <;> (first | rfl | (refine Z.lookv rfl ?_; simp; done) | (refine Z.lookv rfl ?_; simp; omega))) ⟨⟨by simp only; omega, hids2⟩, by simp only [List.map_take]; rw [e1, e2]; exact hs.sel [1, 2, 3, 4] (by decide)⟩ (by simp only; omega)
                              · skip
                                refine Z.ZO.litL (T' := 3) [(0, 1)] [.int .i64 0] rfl rfl (by rfl) rfl rfl (by intro W; kernel_rfl) hs ?_
                                clear hs; intro g46 w46 hs
                                refine Z.tkC (C := Z.lv2 _ _ [17, 18, 19, 20, 21, 22]) (i := 15) ⟨⟨_, hs, by first | (simp; done) | exact fun e he => List.mem_append_right _ he⟩, fun _ => ⟨_, hs, by first | (simp; done) | exact fun e he => List.mem_append_right _ he⟩⟩ ?_
                                refine Z.forkC [9] rfl (by kernel_rfl) rfl ⟨⟨_, _, rfl, rfl, trivial, ?_⟩, trivial⟩
                                refine Z.ZO.append (i0 := Try.t72) (size := 6) (bytes := 48) rfl rfl (by rfl) hs Try.underlying61 (by kernel_rfl) rfl rfl rfl rfl (by decide) rfl rfl (by first | exact SX.at0 | exact SX.at1 | exact SX.at2 | exact SX.at3 | exact SX.at4 | exact SX.at5 | exact Z.at6 | exact Z.at7 | exact Z.at8 | exact Z.at9 | exact Z.at10 | exact Z.at11 | exact Z.at12) (by first | exact SX.at0 | exact SX.at1 | exact SX.at2 | exact SX.at3 | exact SX.at4 | exact SX.at5 | exact Z.at6 | exact Z.at7 | exact Z.at8 | exact Z.at9 | exact Z.at10 | exact Z.at11 | exact Z.at12) (by first | rfl | simp) (by simp [Value.oneCell']) (by decide) (by unfold maxLen; omega) (by omega) ?_
                                clear hs; intro g40 cap40 w40 hs
                                simp only [List.set_cons_zero, List.set_cons_succ, List.eraseIdx_cons_zero, List.eraseIdx_cons_succ] at hs
                                refine Z.tkC (C := Z.lv2 _ _ [17, 18, 19, 20, 21, 22]) (i := 9) ⟨⟨_, hs, by first | (simp; done) | exact fun e he => List.mem_append_right _ he⟩, fun _ => ⟨_, hs, by first | (simp; done) | exact fun e he => List.mem_append_right _ he⟩⟩ ?_
                                refine Z.forkC [16] rfl (by kernel_rfl) rfl ⟨⟨_, _, rfl, rfl, trivial, ?_⟩, trivial⟩
                                refine Z.ZO.append (i0 := Try.t3) (size := 1) (bytes := 8) rfl rfl (by rfl) hs Try.underlying28 (by kernel_rfl) rfl rfl rfl rfl (by decide) rfl rfl (by first | exact SX.at0 | exact SX.at1 | exact SX.at2 | exact SX.at3 | exact SX.at4 | exact SX.at5 | exact Z.at6 | exact Z.at7 | exact Z.at8 | exact Z.at9 | exact Z.at10 | exact Z.at11 | exact Z.at12) (by first | exact SX.at0 | exact SX.at1 | exact SX.at2 | exact SX.at3 | exact SX.at4 | exact SX.at5 | exact Z.at6 | exact Z.at7 | exact Z.at8 | exact Z.at9 | exact Z.at10 | exact Z.at11 | exact Z.at12) (by first | rfl | simp) (by simp [Value.oneCell']) (by decide) (by unfold maxLen; omega) (by omega) ?_
                                clear hs; intro g47 cap47 w47 hs
                                simp only [List.set_cons_zero, List.set_cons_succ, List.eraseIdx_cons_zero, List.eraseIdx_cons_succ] at hs
                                refine Z.tkC (C := Z.lv2 _ _ [17, 18, 19, 20, 21, 22]) (i := 16) ⟨⟨_, hs, by first | (simp; done) | exact fun e he => List.mem_append_right _ he⟩, fun _ => ⟨_, hs, by first | (simp; done) | exact fun e he => List.mem_append_right _ he⟩⟩ ?_
                                refine Z.forkC [17] rfl (by kernel_rfl) rfl ⟨⟨_, _, rfl, rfl, trivial, ?_⟩, trivial⟩
                                refine Z.ZO.quiet rfl (by rfl) (Z.keepS hs) (Z.Yd.nilc rfl rfl) ?_
                                refine Z.tkC (C := Z.lv2 _ _ [17, 18, 19, 20, 21, 22]) (i := 17) ⟨⟨_, hs, by first | (simp; done) | exact fun e he => List.mem_append_right _ he⟩, fun h => absurd h (by decide)⟩ ?_
                                refine Z.forkC [18] rfl (by kernel_rfl) rfl ⟨⟨_, _, rfl, rfl, trivial, ?_⟩, trivial⟩
                                refine Z.ZO.quiet rfl (by rfl) (Z.keepS hs) (Z.Yd.fieldA (m := 0) rfl (by kernel_rfl)) ?_
                                refine Z.tkC (C := Z.lv2 _ _ [17, 18, 19, 20, 21, 22]) (i := 18) ⟨⟨_, hs, by first | (simp; done) | exact fun e he => List.mem_append_right _ he⟩, fun h => absurd h (by decide)⟩ ?_
                                refine Z.forkC [19] rfl (by kernel_rfl) rfl ⟨⟨_, _, rfl, rfl, trivial, ?_⟩, trivial⟩
                                first | refine Z.ZO.store rfl rfl hs Try.sizeOf61 rfl rfl rfl (by first | exact SX.at0 | exact SX.at1 | exact SX.at2 | exact SX.at3 | exact SX.at4 | exact SX.at5 | exact Z.at6 | exact Z.at7 | exact Z.at8 | exact Z.at9 | exact Z.at10 | exact Z.at11 | exact Z.at12) (by first | (simp; done) | (simp; omega)) ?_ | refine Z.ZO.storeR rfl rfl hs Try.sizeOf61 rfl rfl rfl (by first | exact SX.at0 | exact SX.at1 | exact SX.at2 | exact SX.at3 | exact SX.at4 | exact SX.at5 | exact Z.at6 | exact Z.at7 | exact Z.at8 | exact Z.at9 | exact Z.at10 | exact Z.at11 | exact Z.at12) (by first | omega | (simp [ints_length]; done) | (simp [ints_length]; omega)) ?_
                                clear hs; intro ws hs
                                simp only [Nat.zero_add, Nat.add_zero, Nat.reduceAdd, Int.reduceToNat, Nat.reduceMul, List.set_cons_zero, List.set_cons_succ, List.setIfInBounds_toArray] at hs
                                refine Z.tkC (C := Z.lv2 _ _ [17, 18, 19, 20, 21, 22]) (i := 19) ⟨⟨_, hs, by first | (simp; done) | exact fun e he => List.mem_append_right _ he⟩, fun h => absurd h (by decide)⟩ ?_
                                refine Z.forkC [20] rfl (by kernel_rfl) rfl ⟨⟨_, _, rfl, rfl, trivial, ?_⟩, trivial⟩
                                refine Z.ZO.quiet rfl (by rfl) (Z.keepS hs) (Z.Yd.nilc rfl rfl) ?_
                                refine Z.tkC (C := Z.lv2 _ _ [17, 18, 19, 20, 21, 22]) (i := 20) ⟨⟨_, hs, by first | (simp; done) | exact fun e he => List.mem_append_right _ he⟩, fun h => absurd h (by decide)⟩ ?_
                                refine Z.forkC [21] rfl (by kernel_rfl) rfl ⟨⟨_, _, rfl, rfl, trivial, ?_⟩, trivial⟩
                                refine Z.ZO.quiet rfl (by rfl) (Z.keepS hs) (Z.Yd.fieldA (m := 1) rfl (by kernel_rfl)) ?_
                                refine Z.tkC (C := Z.lv2 _ _ [17, 18, 19, 20, 21, 22]) (i := 21) ⟨⟨_, hs, by first | (simp; done) | exact fun e he => List.mem_append_right _ he⟩, fun h => absurd h (by decide)⟩ ?_
                                refine Z.forkC [22] rfl (by kernel_rfl) rfl ⟨⟨_, _, rfl, rfl, trivial, ?_⟩, trivial⟩
                                first | refine Z.ZO.store rfl rfl hs Try.sizeOf28 rfl rfl rfl (by first | exact SX.at0 | exact SX.at1 | exact SX.at2 | exact SX.at3 | exact SX.at4 | exact SX.at5 | exact Z.at6 | exact Z.at7 | exact Z.at8 | exact Z.at9 | exact Z.at10 | exact Z.at11 | exact Z.at12) (by first | (simp; done) | (simp; omega)) ?_ | refine Z.ZO.storeR rfl rfl hs Try.sizeOf28 rfl rfl rfl (by first | exact SX.at0 | exact SX.at1 | exact SX.at2 | exact SX.at3 | exact SX.at4 | exact SX.at5 | exact Z.at6 | exact Z.at7 | exact Z.at8 | exact Z.at9 | exact Z.at10 | exact Z.at11 | exact Z.at12) (by first | omega | (simp [ints_length]; done) | (simp [ints_length]; omega)) ?_
                                clear hs; intro ws hs
                                simp only [Nat.zero_add, Nat.add_zero, Nat.reduceAdd, Int.reduceToNat, Nat.reduceMul, List.set_cons_zero, List.set_cons_succ, List.setIfInBounds_toArray] at hs
                                refine Z.tkC (C := Z.lv2 _ _ [17, 18, 19, 20, 21, 22]) (i := 22) ⟨⟨_, hs, by first | (simp; done) | exact fun e he => List.mem_append_right _ he⟩, fun h => absurd h (by decide)⟩ ?_
                                refine Z.tdC (by rfl) (by kernel_rfl) ?_
                                refine Z.only [0, 4, 18, 19, 20] rfl ?_
                                refine Z.nblock ?_
                                refine Z.nthen ?_
                                refine Z.region ?_
                                have e1 : ((ls.take (i + 1)).map fun x => (x, (0 : Int))).flatMap chC = ((ls.take i).map fun x => (x, (0 : Int))).flatMap chC ++ [.int .i64 xi.id, .int .i64 xi.pr, .int .i64 xi.rt, .int .i64 xi.dp, .int .i64 xi.gr, .int .i64 0] := by
                                  rw [htk, List.map_append, List.flatMap_append]
                                  rfl
                                have e2 : ints .i64 (natI (List.range (i + 1))) = ints .i64 (natI (List.range i)) ++ [.int .i64 (i : Int)] := by
                                  rw [List.range_succ]
                                  simp [natI, ints]
                                simp only [List.map_take] at e1 hs
                                refine Z.l rfl rfl (by rfl) (Z.keepS hs) (Z.Yd.add rfl rfl (fun hG => Z.wi64 (by first | omega | (have hG' := Z.gh rfl hG; simp at hG'; omega)))) ?_
                                refine Z.lb 1 rfl ?_
                                refine Z.lnil ?_
                                refine Z.only [0, 4, 18, 19, 20] rfl ?_
                                refine Z.nthen ?_
                                exact Z.again (i + 1, _, _) (by refine ⟨?_, ?_, ?_, ?_, ?_, trivial⟩ <;> (first | rfl | (refine Z.lookv rfl ?_; simp; done) | (refine Z.lookv rfl ?_; simp; omega))) ⟨⟨by simp only; omega, hids2⟩, by simp only [List.map_take]; rw [e1, e2]; exact hs.sel [1, 2, 3, 4] (by decide)⟩ (by simp only; omega)
                            · skip
                              refine Z.ZO.litL (T' := 3) [(0, 1)] [.int .i64 0] rfl rfl (by rfl) rfl rfl (by intro W; kernel_rfl) hs ?_
                              clear hs; intro g46 w46 hs
                              refine Z.tkC (C := Z.lv2 _ _ [17, 18, 19, 20, 21, 22]) (i := 15) ⟨⟨_, hs, by first | (simp; done) | exact fun e he => List.mem_append_right _ he⟩, fun _ => ⟨_, hs, by first | (simp; done) | exact fun e he => List.mem_append_right _ he⟩⟩ ?_
                              refine Z.forkC [8] rfl (by kernel_rfl) rfl ⟨⟨_, _, rfl, rfl, trivial, ?_⟩, trivial⟩
                              refine Z.ZO.litL (T' := 72) [(0, 6)] [.int .i64 0, .int .i64 0, .int .i64 0, .int .i64 0, .int .i64 0, .int .i64 0] rfl rfl (by rfl) rfl rfl (by intro W; kernel_rfl) hs ?_
                              clear hs; intro g39 w39 hs
                              refine Z.tkC (C := Z.lv2 _ _ [17, 18, 19, 20, 21, 22]) (i := 8) ⟨⟨_, hs, by first | (simp; done) | exact fun e he => List.mem_append_right _ he⟩, fun _ => ⟨_, hs, by first | (simp; done) | exact fun e he => List.mem_append_right _ he⟩⟩ ?_
                              refine Z.forkC [9] rfl (by kernel_rfl) rfl ⟨⟨_, _, rfl, rfl, trivial, ?_⟩, trivial⟩
                              refine Z.ZO.append (i0 := Try.t72) (size := 6) (bytes := 48) rfl rfl (by rfl) hs Try.underlying61 (by kernel_rfl) rfl rfl rfl rfl (by decide) rfl rfl (by first | exact SX.at0 | exact SX.at1 | exact SX.at2 | exact SX.at3 | exact SX.at4 | exact SX.at5 | exact Z.at6 | exact Z.at7 | exact Z.at8 | exact Z.at9 | exact Z.at10 | exact Z.at11 | exact Z.at12) (by first | exact SX.at0 | exact SX.at1 | exact SX.at2 | exact SX.at3 | exact SX.at4 | exact SX.at5 | exact Z.at6 | exact Z.at7 | exact Z.at8 | exact Z.at9 | exact Z.at10 | exact Z.at11 | exact Z.at12) (by first | rfl | simp) (by simp [Value.oneCell']) (by decide) (by unfold maxLen; omega) (by omega) ?_
                              clear hs; intro g40 cap40 w40 hs
                              simp only [List.set_cons_zero, List.set_cons_succ, List.eraseIdx_cons_zero, List.eraseIdx_cons_succ] at hs
                              refine Z.tkC (C := Z.lv2 _ _ [17, 18, 19, 20, 21, 22]) (i := 9) ⟨⟨_, hs, by first | (simp; done) | exact fun e he => List.mem_append_right _ he⟩, fun _ => ⟨_, hs, by first | (simp; done) | exact fun e he => List.mem_append_right _ he⟩⟩ ?_
                              refine Z.forkC [16] rfl (by kernel_rfl) rfl ⟨⟨_, _, rfl, rfl, trivial, ?_⟩, trivial⟩
                              refine Z.ZO.append (i0 := Try.t3) (size := 1) (bytes := 8) rfl rfl (by rfl) hs Try.underlying28 (by kernel_rfl) rfl rfl rfl rfl (by decide) rfl rfl (by first | exact SX.at0 | exact SX.at1 | exact SX.at2 | exact SX.at3 | exact SX.at4 | exact SX.at5 | exact Z.at6 | exact Z.at7 | exact Z.at8 | exact Z.at9 | exact Z.at10 | exact Z.at11 | exact Z.at12) (by first | exact SX.at0 | exact SX.at1 | exact SX.at2 | exact SX.at3 | exact SX.at4 | exact SX.at5 | exact Z.at6 | exact Z.at7 | exact Z.at8 | exact Z.at9 | exact Z.at10 | exact Z.at11 | exact Z.at12) (by first | rfl | simp) (by simp [Value.oneCell']) (by decide) (by unfold maxLen; omega) (by omega) ?_
                              clear hs; intro g47 cap47 w47 hs
                              simp only [List.set_cons_zero, List.set_cons_succ, List.eraseIdx_cons_zero, List.eraseIdx_cons_succ] at hs
                              refine Z.tkC (C := Z.lv2 _ _ [17, 18, 19, 20, 21, 22]) (i := 16) ⟨⟨_, hs, by first | (simp; done) | exact fun e he => List.mem_append_right _ he⟩, fun _ => ⟨_, hs, by first | (simp; done) | exact fun e he => List.mem_append_right _ he⟩⟩ ?_
                              refine Z.forkC [17] rfl (by kernel_rfl) rfl ⟨⟨_, _, rfl, rfl, trivial, ?_⟩, trivial⟩
                              refine Z.ZO.quiet rfl (by rfl) (Z.keepS hs) (Z.Yd.nilc rfl rfl) ?_
                              refine Z.tkC (C := Z.lv2 _ _ [17, 18, 19, 20, 21, 22]) (i := 17) ⟨⟨_, hs, by first | (simp; done) | exact fun e he => List.mem_append_right _ he⟩, fun h => absurd h (by decide)⟩ ?_
                              refine Z.forkC [18] rfl (by kernel_rfl) rfl ⟨⟨_, _, rfl, rfl, trivial, ?_⟩, trivial⟩
                              refine Z.ZO.quiet rfl (by rfl) (Z.keepS hs) (Z.Yd.fieldA (m := 0) rfl (by kernel_rfl)) ?_
                              refine Z.tkC (C := Z.lv2 _ _ [17, 18, 19, 20, 21, 22]) (i := 18) ⟨⟨_, hs, by first | (simp; done) | exact fun e he => List.mem_append_right _ he⟩, fun h => absurd h (by decide)⟩ ?_
                              refine Z.forkC [19] rfl (by kernel_rfl) rfl ⟨⟨_, _, rfl, rfl, trivial, ?_⟩, trivial⟩
                              first | refine Z.ZO.store rfl rfl hs Try.sizeOf61 rfl rfl rfl (by first | exact SX.at0 | exact SX.at1 | exact SX.at2 | exact SX.at3 | exact SX.at4 | exact SX.at5 | exact Z.at6 | exact Z.at7 | exact Z.at8 | exact Z.at9 | exact Z.at10 | exact Z.at11 | exact Z.at12) (by first | (simp; done) | (simp; omega)) ?_ | refine Z.ZO.storeR rfl rfl hs Try.sizeOf61 rfl rfl rfl (by first | exact SX.at0 | exact SX.at1 | exact SX.at2 | exact SX.at3 | exact SX.at4 | exact SX.at5 | exact Z.at6 | exact Z.at7 | exact Z.at8 | exact Z.at9 | exact Z.at10 | exact Z.at11 | exact Z.at12) (by first | omega | (simp [ints_length]; done) | (simp [ints_length]; omega)) ?_
                              clear hs; intro ws hs
                              simp only [Nat.zero_add, Nat.add_zero, Nat.reduceAdd, Int.reduceToNat, Nat.reduceMul, List.set_cons_zero, List.set_cons_succ, List.setIfInBounds_toArray] at hs
                              refine Z.tkC (C := Z.lv2 _ _ [17, 18, 19, 20, 21, 22]) (i := 19) ⟨⟨_, hs, by first | (simp; done) | exact fun e he => List.mem_append_right _ he⟩, fun h => absurd h (by decide)⟩ ?_
                              refine Z.forkC [20] rfl (by kernel_rfl) rfl ⟨⟨_, _, rfl, rfl, trivial, ?_⟩, trivial⟩
                              refine Z.ZO.quiet rfl (by rfl) (Z.keepS hs) (Z.Yd.nilc rfl rfl) ?_
                              refine Z.tkC (C := Z.lv2 _ _ [17, 18, 19, 20, 21, 22]) (i := 20) ⟨⟨_, hs, by first | (simp; done) | exact fun e he => List.mem_append_right _ he⟩, fun h => absurd h (by decide)⟩ ?_
                              refine Z.forkC [21] rfl (by kernel_rfl) rfl ⟨⟨_, _, rfl, rfl, trivial, ?_⟩, trivial⟩
                              refine Z.ZO.quiet rfl (by rfl) (Z.keepS hs) (Z.Yd.fieldA (m := 1) rfl (by kernel_rfl)) ?_
                              refine Z.tkC (C := Z.lv2 _ _ [17, 18, 19, 20, 21, 22]) (i := 21) ⟨⟨_, hs, by first | (simp; done) | exact fun e he => List.mem_append_right _ he⟩, fun h => absurd h (by decide)⟩ ?_
                              refine Z.forkC [22] rfl (by kernel_rfl) rfl ⟨⟨_, _, rfl, rfl, trivial, ?_⟩, trivial⟩
                              first | refine Z.ZO.store rfl rfl hs Try.sizeOf28 rfl rfl rfl (by first | exact SX.at0 | exact SX.at1 | exact SX.at2 | exact SX.at3 | exact SX.at4 | exact SX.at5 | exact Z.at6 | exact Z.at7 | exact Z.at8 | exact Z.at9 | exact Z.at10 | exact Z.at11 | exact Z.at12) (by first | (simp; done) | (simp; omega)) ?_ | refine Z.ZO.storeR rfl rfl hs Try.sizeOf28 rfl rfl rfl (by first | exact SX.at0 | exact SX.at1 | exact SX.at2 | exact SX.at3 | exact SX.at4 | exact SX.at5 | exact Z.at6 | exact Z.at7 | exact Z.at8 | exact Z.at9 | exact Z.at10 | exact Z.at11 | exact Z.at12) (by first | omega | (simp [ints_length]; done) | (simp [ints_length]; omega)) ?_
                              clear hs; intro ws hs
                              simp only [Nat.zero_add, Nat.add_zero, Nat.reduceAdd, Int.reduceToNat, Nat.reduceMul, List.set_cons_zero, List.set_cons_succ, List.setIfInBounds_toArray] at hs
                              refine Z.tkC (C := Z.lv2 _ _ [17, 18, 19, 20, 21, 22]) (i := 22) ⟨⟨_, hs, by first | (simp; done) | exact fun e he => List.mem_append_right _ he⟩, fun h => absurd h (by decide)⟩ ?_
                              refine Z.tdC (by rfl) (by kernel_rfl) ?_
                              refine Z.only [0, 4, 18, 19, 20] rfl ?_
                              refine Z.nblock ?_
                              refine Z.nthen ?_
                              refine Z.region ?_
                              have e1 : ((ls.take (i + 1)).map fun x => (x, (0 : Int))).flatMap chC = ((ls.take i).map fun x => (x, (0 : Int))).flatMap chC ++ [.int .i64 xi.id, .int .i64 xi.pr, .int .i64 xi.rt, .int .i64 xi.dp, .int .i64 xi.gr, .int .i64 0] := by
                                rw [htk, List.map_append, List.flatMap_append]
                                rfl
                              have e2 : ints .i64 (natI (List.range (i + 1))) = ints .i64 (natI (List.range i)) ++ [.int .i64 (i : Int)] := by
                                rw [List.range_succ]
                                simp [natI, ints]
                              simp only [List.map_take] at e1 hs
                              refine Z.l rfl rfl (by rfl) (Z.keepS hs) (Z.Yd.add rfl rfl (fun hG => Z.wi64 (by first | omega | (have hG' := Z.gh rfl hG; simp at hG'; omega)))) ?_
                              refine Z.lb 1 rfl ?_
                              refine Z.lnil ?_
                              refine Z.only [0, 4, 18, 19, 20] rfl ?_
                              refine Z.nthen ?_
                              exact Z.again (i + 1, _, _) (by refine ⟨?_, ?_, ?_, ?_, ?_, trivial⟩ <;> (first | rfl | (refine Z.lookv rfl ?_; simp; done) | (refine Z.lookv rfl ?_; simp; omega))) ⟨⟨by simp only; omega, hids2⟩, by simp only [List.map_take]; rw [e1, e2]; exact hs.sel [1, 2, 3, 4] (by decide)⟩ (by simp only; omega)
                            )
                      )
                · first
                    | (exfalso; simp at hc5 <;> omega)
                    | (
                      (try simp at hc5)
                      refine Z.exit ?_
                      refine Z.xthen ?_
                      refine Z.xthen ?_
                      refine Z.xblock ?_
                      refine Z.nthen ?_
                      refine Z.seq ?_
                      refine Z.region ?_
                      obtain rfl : i = ls.length := by omega
                      rw [List.take_length] at hids hs
                      have hset : okSet ls := ⟨by omega, hlg, hids⟩
                      obtain ⟨gr, cr, rfl, hcr⟩ := row_form hs (j := 3) rfl (by omega)
                      obtain ⟨Ac, cc, rfl, -, -, -⟩ := SX.row_slv hs (j := 2) rfl
                      have hmem : ∀ x ∈ natI (List.range ls.length), ∃ i : Nat, i < ls.length ∧ x = (i : Int) := fun x hx => by
                        simp only [natI, List.mem_map, List.mem_range] at hx
                        obtain ⟨i, hi, rfl⟩ := hx
                        exact ⟨i, hi, rfl⟩
                      refine Z.l rfl rfl (by rfl) (Z.keepS hs) (by first | exact Z.Yd.load rfl Try.isAgg24 (fun _ => Z.cellB (by first | ((repeat (first | exact List.mem_cons_self | refine List.mem_cons_of_mem _ ?_ | refine List.mem_append_right _ ?_)); done) | fail) rfl) | exact Z.Yd.load rfl Try.isAgg24 (fun _ => Z.cellO (by assumption) (by simp) (by assumption)) | fail "load 10.0") ?_
                      refine Z.l rfl rfl (by rfl) (Z.keepS hs) (Z.Yd.nilc rfl rfl) ?_
                      refine Z.l rfl rfl (by rfl) (Z.keepS hs) (Z.Yd.fieldA (m := 1) rfl (by kernel_rfl)) ?_
                      refine Z.l rfl rfl (by rfl) (Z.keepS hs) (by first | exact Z.Yd.load rfl Try.isAgg28 (fun _ => Z.cellB (by first | ((repeat (first | exact List.mem_cons_self | refine List.mem_cons_of_mem _ ?_ | refine List.mem_append_right _ ?_)); done) | fail) rfl) | exact Z.Yd.load rfl Try.isAgg28 (fun _ => Z.cellO (by assumption) (by simp) (by assumption)) | fail "load 10.3") ?_
                      refine Z.lb 1 rfl ?_
                      replace hs : SX.St w [] _ ([SX.Ent.row _ 3 1 ls.length (ints .i64 (natI (List.range ls.length)))] ++ [SX.Ent.blk g4 24 #[.pointer (some ⟨g17, 0, none⟩)], SX.Ent.blk g17 63 #[.slice Ac ls.length cc, .slice (some ⟨gr, 0, none⟩) ls.length cr, .int .i64 0], SX.Ent.row _ 72 6 ls.length (List.flatMap chC (List.map (fun x => (x, (0 : Int))) ls))]) := hs.sel [3, 0, 1, 2] (by decide)
                      refine Z.le rfl trivial ?_
                      refine Z.ZO.call rfl rfl (by rfl) rfl rfl Try.call32 rfl (sortfunc gr ls.length cr 3 33 _ (key ls) (natI (List.range ls.length)) _ hs.lend (by simp [natI]) (by omega) (by omega) Try.call33 (fun x hx y hy W L hW ↦ bk_new2 g4 g17 ls.length cc Ac (.slice (some ⟨gr, 0, none⟩) ls.length cr) (.int .i64 0) ls x y W ((hs.regain hW).celOf (T := 24) (by simp)) ((hs.regain hW).celOf (T := 63) (cs := [_, _, _]) (by simp)) ((hs.regain hW).slm (T := 72) (size := 6) (k := ls.length) (c := cc) (m := ls.length) (by simp)) rfl hset (hmem x hx) (hmem y hy))) ?_
                      rintro v10_5 w10_5 ⟨rfl, ys, hp, hS, hz⟩
                      replace hs := hs.regain hz
                      obtain rfl := ord_unique hset hp hS
                      simp only [List.cons_append, List.nil_append] at hs
                      refine Z.lnil ?_
                      refine Z.only [4] rfl ?_
                      refine Z.nthen ?_
                      refine Z.seq ?_
                      refine Z.seq ?_
                      refine Z.region ?_
                      refine Z.l rfl rfl (by rfl) (Z.keepS hs) (by first | exact Z.Yd.load rfl Try.isAgg24 (fun _ => Z.cellB (by first | ((repeat (first | exact List.mem_cons_self | refine List.mem_cons_of_mem _ ?_ | refine List.mem_append_right _ ?_)); done) | fail) rfl) | exact Z.Yd.load rfl Try.isAgg24 (fun _ => Z.cellO (by assumption) (by simp) (by assumption)) | fail "load 11.0") ?_
                      refine Z.lb 2 rfl ?_
                      refine Z.lnil ?_
                      refine Z.only [2, 3] rfl ?_
                      refine Z.nthen ?_
                      refine Z.ret ?_
                      repeat (first | refine Z.rthen ?_ | refine Z.rblock ?_ | refine Z.rscope ?_ | refine Z.rjump ?_)
                      -- ret#1
                      refine Z.out2 (by exact ⟨rfl, rfl, trivial⟩) ?_
                      first
                      | exact ⟨_, rfl, by dsimp only; rw [if_neg hno]; exact ⟨rfl, hs⟩⟩
                      | (refine ⟨_, rfl, ?_⟩
                         dsimp only
                         rw [if_pos hset]
                         refine ⟨g17, .slice Ac ls.length cc, .slice (some ⟨gr, 0, none⟩) ls.length cr, rfl, ?_⟩
                         unfold bkE
                         rw [newB_chs]
                         exact hs.sel [2, 3, 0] (by decide))
                      )
                )
          )
  · clear hs
    rintro ⟨⟩ w9 ⟨hno, hs⟩
    refine Z.only [] rfl ?_
    (try dsimp only at hs)
    refine Z.seq ?_
    refine Z.skip ?_
    refine Z.nthen ?_
    refine Z.seq ?_
    refine Z.region ?_
    refine Z.lb 2 rfl ?_
    refine Z.lnil ?_
    refine Z.only [2, 3] rfl ?_
    refine Z.nthen ?_
    refine Z.ret ?_
    repeat (first | refine Z.rthen ?_ | refine Z.rblock ?_ | refine Z.rscope ?_)
    -- ret#2
    refine Z.out2 (by exact ⟨rfl, rfl, trivial⟩) ?_
    first
    | exact ⟨_, rfl, by dsimp only; rw [if_neg hno]; exact ⟨rfl, hs⟩⟩
    | (refine ⟨_, rfl, ?_⟩
       dsimp only
       rw [if_pos hset]
       refine ⟨g17, .slice Ac ls.length cc, .slice (some ⟨gr, 0, none⟩) ls.length cr, rfl, ?_⟩
       unfold bkE
       rw [newB_chs]
       exact hs.sel [2, 3, 0] (by decide))
end Go.Proofs.Ythdhobnkclddhaa

/- Buckets: time and division, plainly. -/
namespace Go.Proofs.Ythdhobnkclddhaa
open Go.RowKit
set_option linter.unusedSimpArgs false
set_option linter.unusedVariables false
--newlaws

/-- the first i elements are new -/
def upTo (n : Nat) (f : Nat → Int) (b : List Int) (i : Nat) : List Int := (List.range n).map fun k => if k < i then f k else elt b (k : Int)
theorem upTo_len {n : Nat} {f : Nat → Int} {b : List Int} {i : Nat} : (upTo n f b i).length = n := by simp [upTo]
theorem upTo_elt {n : Nat} {f : Nat → Int} {b : List Int} {i k : Nat} (hk : k < n) : elt (upTo n f b i) (k : Int) = if k < i then f k else elt b (k : Int) := by
  rw [elt_get (by rw [upTo_len]; exact hk)]
  simp [upTo]
theorem upTo_zero {n : Nat} {f : Nat → Int} {b : List Int} (h : b.length = n) : upTo n f b 0 = b := by
  refine List.ext_getElem (by rw [upTo_len, h]) fun k h1 h2 => ?_
  simp [upTo, elt_get h2]
theorem upTo_set {n : Nat} {f : Nat → Int} {b : List Int} {i : Nat} : (upTo n f b i).set i (f i) = upTo n f b (i + 1) := by
  refine List.ext_getElem (by simp [upTo]) fun k h1 h2 => ?_
  have hk : k < n := by rw [upTo_len] at h2; exact h2
  rw [List.getElem_set]
  simp only [upTo, List.getElem_map, List.getElem_range]
  by_cases h : i = k
  · subst h; rw [if_pos rfl, if_pos (by omega)]
  · rw [if_neg h]
    by_cases h3 : k < i
    · rw [if_pos h3, if_pos (by omega)]
    · rw [if_neg h3, if_neg (by omega)]
theorem elt_set {l : List Int} {i k : Nat} {v : Int} (hi : i < l.length) : elt (l.set i v) (k : Int) = if i = k then v else elt l (k : Int) := by
  by_cases hk : k < l.length
  · rw [elt_get (by rw [List.length_set]; exact hk), List.getElem_set, elt_get hk]
  · have h1 : elt (l.set i v) (k : Int) = 0 := by simp [elt, hk]
    have h2 : elt l (k : Int) = 0 := by simp [elt, hk]
    rw [h1, if_neg (by omega), h2]
def tkF (m : BkV) (t : Int) (i : Nat) : Int := min m.l[i]!.dp (elt m.b (i : Int) + m.l[i]!.rt * (t - m.now))
def tickG (m : BkV) (t : Int) (i : Nat) : BkV := { m with b := upTo m.l.length (tkF m t) m.b i }
def okT (m : BkV) (t : Int) : Prop := m.now ≤ t ∧ t < 1073741824
instance (m : BkV) (t : Int) : Decidable (okT m t) := by unfold okT; infer_instance
def tickV (m : BkV) (t : Int) : BkV × Int := if okT m t then ({ tickG m t m.l.length with now := t }, 0) else (m, 2)
theorem tkF_bd {m : BkV} (hm : m.ok) {t : Int} (ht : okT m t) {i : Nat} (hi : i < m.l.length) : (0 ≤ m.l[i]!.rt * (t - m.now) ∧ m.l[i]!.rt * (t - m.now) ≤ 1125899906842624) ∧ 0 ≤ tkF m t i ∧ tkF m t i ≤ m.l[i]!.dp := by
  obtain ⟨-, -, ⟨r1, r2⟩, ⟨d1, d2⟩, -⟩ := hm.set.lg hi
  obtain ⟨n1, n2⟩ := hm.now
  obtain ⟨t1, t2⟩ := ht
  obtain ⟨b1, b2⟩ := hm.bd i hi
  have h1 : 0 ≤ m.l[i]!.rt * (t - m.now) := Int.mul_nonneg r1 (by omega)
  have h2 : m.l[i]!.rt * (t - m.now) ≤ 1048576 * 1073741824 := Int.mul_le_mul r2 (by omega) (by omega) (by omega)
  refine ⟨⟨h1, by omega⟩, ?_⟩
  unfold tkF
  omega
theorem BkV.ok.tickG {m : BkV} (hm : m.ok) {t : Int} (ht : okT m t) (i : Nat) : (tickG m t i).ok := by
  refine ⟨hm.set, by simp [Go.Proofs.Ythdhobnkclddhaa.tickG, upTo_len], fun k hk => ?_, hm.now⟩
  have hk' : k < m.l.length := hk
  have h1 := (tkF_bd hm ht hk').2
  have h2 := hm.bd k hk'
  simp only [Go.Proofs.Ythdhobnkclddhaa.tickG]
  rw [upTo_elt hk']
  split
  · exact h1
  · exact h2
theorem BkV.ok.tick {m : BkV} (hm : m.ok) (t : Int) : (tickV m t).1.ok := by
  unfold tickV
  split
  · rename_i ht
    obtain ⟨h1, h2, h3, h4⟩ := hm.tickG ht m.l.length
    exact ⟨h1, h2, h3, by have := hm.now; unfold okT at ht; simp only; omega⟩
  · exact hm
structure DvS where
  out : List Int
  b : List Int
  sz : Int
def amt (r : Nat) (dem : List Int) (s : DvS) (i : Nat) : Int := if r = 0 then min (min (elt dem (i : Int) - elt s.out (i : Int)) (elt s.b (i : Int))) s.sz else min (elt dem (i : Int) - elt s.out (i : Int)) s.sz
def dst (r : Nat) (dem : List Int) (s : DvS) (i : Nat) : DvS := ⟨s.out.set i (elt s.out (i : Int) + amt r dem s i), if r = 0 then s.b.set i (elt s.b (i : Int) - amt r dem s i) else s.b, s.sz - amt r dem s i⟩
def rnd (r : Nat) (dem : List Int) (s : DvS) (o : List Nat) : DvS := o.foldl (dst r dem) s
def dv0 (m : BkV) (size : Int) : DvS := ⟨List.replicate m.l.length 0, m.b, size⟩
def rounds (m : BkV) (size : Int) (dem : List Int) : Nat → DvS
  | 0 => dv0 m size
  | r + 1 => rnd r dem (rounds m size dem r) (ordL m.l)
def okDm (dem : List Int) : Prop := ∀ x ∈ dem, 0 ≤ x ∧ x ≤ 16777216
instance (dem : List Int) : Decidable (okDm dem) := by unfold okDm; infer_instance
def okD (m : BkV) (size : Int) (dem : List Int) : Prop := (0 ≤ size ∧ size ≤ 16777216) ∧ dem.length = m.l.length ∧ okDm dem
instance (m : BkV) (size : Int) (dem : List Int) : Decidable (okD m size dem) := by unfold okD; infer_instance
def divV (m : BkV) (size : Int) (dem : List Int) : BkV × List Int × Int := if okD m size dem then ({ m with b := (rounds m size dem 2).b }, (rounds m size dem 2).out, 0) else (m, [], 2)
structure DvS.ok (m : BkV) (dem : List Int) (s : DvS) : Prop where
  ol : s.out.length = m.l.length
  bl : s.b.length = m.l.length
  sz : 0 ≤ s.sz ∧ s.sz ≤ 16777216
  og : ∀ i : Nat, i < m.l.length → 0 ≤ elt s.out (i : Int) ∧ elt s.out (i : Int) ≤ elt dem (i : Int)
  bg : ∀ i : Nat, i < m.l.length → 0 ≤ elt s.b (i : Int) ∧ elt s.b (i : Int) ≤ elt m.b (i : Int)
theorem okDm.elt {dem : List Int} (h : okDm dem) {i : Nat} (hi : i < dem.length) : 0 ≤ elt dem (i : Int) ∧ elt dem (i : Int) ≤ 16777216 := by
  rw [elt_get hi]
  exact h _ (List.getElem_mem _)
theorem dv0_ok {m : BkV} (hm : m.ok) {size : Int} {dem : List Int} (h : okD m size dem) : (dv0 m size).ok m dem := by
  refine ⟨by simp [dv0], by simp [dv0, hm.len], h.1, fun i hi => ?_, fun i hi => ?_⟩
  · have h1 := h.2.2.elt (i := i) (by have := h.2.1; omega)
    have e : elt (dv0 m size).out (i : Int) = 0 := by simp [dv0, Go.Proofs.Ythdhobnkclddhaa.elt, hi]
    rw [e]; exact ⟨by omega, h1.1⟩
  · have := hm.bd i hi
    exact ⟨this.1, Int.le_refl _⟩
theorem amt_bd {m : BkV} {dem : List Int} {s : DvS} (hs : s.ok m dem) (r : Nat) {i : Nat} (hi : i < m.l.length) : 0 ≤ amt r dem s i ∧ amt r dem s i ≤ elt dem (i : Int) - elt s.out (i : Int) ∧ amt r dem s i ≤ s.sz ∧ (r = 0 → amt r dem s i ≤ elt s.b (i : Int)) := by
  have h1 := hs.og i hi
  have h2 := hs.bg i hi
  have h3 := hs.sz
  unfold amt
  split <;> omega
theorem DvS.ok.step {m : BkV} {dem : List Int} {s : DvS} (hs : s.ok m dem) (r : Nat) {i : Nat} (hi : i < m.l.length) : (dst r dem s i).ok m dem := by
  obtain ⟨a1, a2, a3, a4⟩ := amt_bd hs r hi
  have h0 := hs.sz
  refine ⟨by simp [dst, hs.ol], by simp only [dst]; split <;> simp [hs.bl], by simp only [dst]; omega, fun k hk => ?_, fun k hk => ?_⟩
  · have h1 := hs.og k hk
    simp only [dst]
    rw [elt_set (by rw [hs.ol]; exact hi)]
    split
    · rename_i e; subst e; omega
    · exact h1
  · have h1 := hs.bg k hk
    simp only [dst]
    split
    · rename_i hr
      rw [elt_set (by rw [hs.bl]; exact hi)]
      have := a4 hr
      split
      · rename_i e; subst e; omega
      · exact h1
    · exact h1
theorem DvS.ok.fold {m : BkV} {dem : List Int} (r : Nat) : ∀ {o : List Nat} {s : DvS}, s.ok m dem → (∀ i ∈ o, i < m.l.length) → (rnd r dem s o).ok m dem
  | [], _, h, _ => h
  | i :: o, s, h, ho => DvS.ok.fold r (o := o) (h.step r (ho i (by simp))) fun k hk => ho k (by simp [hk])
theorem ord_lt {m : BkV} (hm : m.ok) : ∀ i ∈ ordL m.l, i < m.l.length := fun i hi => (mem_ordL hm.set).1 hi
theorem rounds_ok {m : BkV} (hm : m.ok) {size : Int} {dem : List Int} (h : okD m size dem) : ∀ r, (rounds m size dem r).ok m dem
  | 0 => dv0_ok hm h
  | r + 1 => (rounds_ok hm h r).fold r (ord_lt hm)
theorem BkV.ok.setB {m : BkV} (hm : m.ok) {dem : List Int} {s : DvS} (hs : s.ok m dem) : ({ m with b := s.b } : BkV).ok := by
  refine ⟨hm.set, hs.bl, fun i hi => ?_, hm.now⟩
  have h1 := hs.bg i hi
  have h2 := hm.bd i hi
  simp only
  omega
theorem BkV.ok.div {m : BkV} (hm : m.ok) (size : Int) (dem : List Int) : (divV m size dem).1.ok := by
  unfold divV
  split
  · rename_i h; exact hm.setB (rounds_ok hm h 2)
  · exact hm
/-- one more of the order -/
theorem rnd_take {r : Nat} {dem : List Int} {s : DvS} {o : List Nat} {k : Nat} (hk : k < o.length) : rnd r dem s (o.take (k + 1)) = dst r dem (rnd r dem s (o.take k)) o[k] := by
  unfold rnd
  rw [List.take_add_one, List.getElem?_eq_getElem hk, List.foldl_append]
  rfl
/-- the channels with other buckets -/
theorem chs_set {m : BkV} (hm : m.b.length = m.l.length) {i : Nat} (hi : i < m.l.length) (v : Int) : m.chs.set i (m.l[i]!, v) = ({ m with b := m.b.set i v } : BkV).chs := by
  unfold BkV.chs
  refine List.ext_getElem (by simp) fun k h1 h2 => ?_
  have hk : k < m.l.length := by simp at h1; omega
  rw [List.getElem_set, List.getElem_zip, List.getElem_zip, List.getElem_set]
  by_cases h : i = k
  · subst h; simp [getElem!_pos, hi]
  · simp [h]
end Go.Proofs.Ythdhobnkclddhaa

/- Buckets: Tick, Divide. -/
namespace Go.Proofs.Ythdhobnkclddhaa
open Go.RowKit
set_option linter.unusedSimpArgs false
set_option linter.unusedVariables false
--newlaws

theorem bk_none (g n c : Nat) (A : Option Addr) (so nw : Value) (w : World) (hc : Cel w g [.slice A n c, so, nw]) : Calls Try.prog 35 #[.pointer (some ⟨g, 0, none⟩)] w (SX.Ret fun v w' => v = .bool (decide (n = 0)) ∧ SX.St w [] w' []) := by
  have hs := SX.St.start w
  refine Z.enter Try.func35 rfl Try.ntmps35 rfl rfl ?_
  refine Z.seq ?_
  refine Z.region ?_
  refine Z.lb 1 rfl ?_
  refine Z.lnil ?_
  refine Z.only [0] rfl ?_
  refine Z.nthen ?_
  refine Z.seq ?_
  refine Z.region ?_
  refine Z.lb 1 rfl ?_
  refine Z.l rfl rfl (by rfl) (Z.keepS hs) (Z.Yd.ptrNil rfl rfl Try.underlying24) ?_
  refine Z.lb 2 rfl ?_
  refine Z.l rfl rfl (by rfl) (Z.keepS hs) (Z.Yd.nilc rfl rfl) ?_
  refine Z.l rfl rfl (by rfl) (Z.keepS hs) (Z.Yd.fieldA (m := 0) rfl (by kernel_rfl)) ?_
  refine Z.l rfl rfl (by rfl) (Z.keepS hs) (Z.Yd.load rfl Try.isAgg61 (fun _ => Z.cellO hc.1 (by simp) (hc.2 0 _ rfl))) ?_
  refine Z.l rfl rfl (by rfl) (Z.keepS hs) (Z.Yd.lenS rfl Try.underlying61) ?_
  refine Z.lb 3 rfl ?_
  refine Z.lnil ?_
  refine Z.only [2] rfl ?_
  refine Z.nthen ?_
  refine Z.ret ?_
  -- ret#0
  refine Z.out1 (by exact ⟨rfl, trivial⟩) ?_
  exact ⟨_, rfl, by congr 1; rw [Bool.eq_iff_iff]; simp, hs⟩
theorem BkV.ok.pos {m : BkV} (hm : m.ok) : 1 ≤ m.l.length ∧ m.l.length ≤ 10 := hm.set.1
set_option maxHeartbeats 1000000 in
set_option maxRecDepth 100000 in
theorem bk_tick (g : Nat) (sv so : Value) (m : BkV) (t : Int) (w : World) (hs : SX.St w (SX.idsOf (bkE g sv so m)) w (bkE g sv so m)) (hm : m.ok) :
    Calls Try.prog 14 #[.pointer (some ⟨g, 0, none⟩), .int .i64 t] w (SX.Ret fun v w' => v = .int .i64 (tickV m t).2 ∧ SX.St w (SX.idsOf (bkE g sv so m)) w' (bkE g sv so (tickV m t).1)) := by
  generalize hM : SX.idsOf (bkE g sv so m) = M at *
  have hpos := hm.pos
  have hnow := hm.now
  unfold bkE at hs
  obtain ⟨gs, cs, rfl, hcs⟩ := row_form hs (j := 1) rfl (by omega)
  refine Z.enter Try.func14 rfl Try.ntmps14 rfl rfl ?_
  refine Z.seq ?_
  refine Z.region ?_
  refine Z.lb 1 rfl ?_
  refine Z.lnil ?_
  refine Z.only [0, 1] rfl ?_
  refine Z.nthen ?_
  refine Z.seq ?_
  refine Z.block ?_
  refine Z.seq ?_
  refine Z.region ?_
  refine Z.lb 1 rfl ?_
  refine Z.le rfl trivial ?_
  refine Z.ZO.call rfl rfl (by rfl) rfl rfl Try.call35 rfl (bk_none g _ _ _ _ _ _ (hs.celOf (cs := [_, _, _]) (by first | ((repeat (first | exact List.mem_cons_self | refine List.mem_cons_of_mem _ ?_ | refine List.mem_append_right _ ?_)); done) | fail))) ?_
  rintro v1_1 w1_1 ⟨rfl, hy⟩
  replace hs := hs.call hy
  clear hy
  try simp only [List.cons_append, List.nil_append, List.append_nil] at hs
  refine Z.lb 1 rfl ?_
  refine Z.lnil ?_
  refine Z.only [0, 1, 7] rfl ?_
  refine Z.nthen ?_
  refine Z.cond rfl (fun h => absurd h (by simp only [decide_eq_true_eq]; omega)) (fun hc1 => ?_)
  refine Z.seq ?_
  refine Z.region ?_
  refine Z.lb 2 rfl ?_
  refine Z.l rfl rfl (by rfl) (Z.keepS hs) (Z.Yd.nilc rfl rfl) ?_
  refine Z.l rfl rfl (by rfl) (Z.keepS hs) (Z.Yd.fieldA (m := 2) rfl (by kernel_rfl)) ?_
  refine Z.l rfl rfl (by rfl) (Z.keepS hs) (by first | exact Z.Yd.load rfl Try.isAgg3 (fun _ => Z.cellB (by first | ((repeat (first | exact List.mem_cons_self | refine List.mem_cons_of_mem _ ?_ | refine List.mem_append_right _ ?_)); done) | fail) rfl) | exact Z.Yd.load rfl Try.isAgg3 (fun _ => Z.cellO (by assumption) (by simp) (by assumption)) | fail "load 3.4") ?_
  refine Z.lb 6 rfl ?_
  refine Z.lnil ?_
  refine Z.only [0, 1, 10] rfl ?_
  refine Z.nthen ?_
  refine Z.cond rfl (fun hc3 => ?_) (fun hc3 => ?_)
  · first
      | (exfalso; simp at hc3 <;> omega)
      | (
        (try simp at hc3)
        have hno : ¬ okT m t := by unfold okT; omega
        have eT : tickV m t = (m, 2) := if_neg hno
        refine Z.seq ?_
        refine Z.region ?_
        refine Z.lb 1 rfl ?_
        refine Z.lnil ?_
        refine Z.only [4] rfl ?_
        refine Z.nthen ?_
        refine Z.ret ?_
        repeat (first | refine Z.rthen ?_ | refine Z.rblock ?_ | refine Z.rscope ?_)
        -- ret#0
        refine Z.out1 (by exact ⟨rfl, trivial⟩) ?_
        first
        | exact ⟨_, rfl, by rw [eT], by rw [eT]; exact hs⟩
        )
  · first
      | (exfalso; simp at hc3 <;> omega)
      | (
        (try simp at hc3)
        have hok : okT m t := by unfold okT; omega
        have eT : tickV m t = ({ tickG m t m.l.length with now := t }, 0) := if_pos hok
        refine Z.skip ?_
        refine Z.nblock ?_
        refine Z.nthen ?_
        refine Z.seq ?_
        refine Z.seq ?_
        refine Z.region ?_
        refine Z.lb 1 rfl ?_
        refine Z.l rfl rfl (by rfl) (Z.keepS hs) (Z.Yd.nilc rfl rfl) ?_
        refine Z.l rfl rfl (by rfl) (Z.keepS hs) (Z.Yd.fieldA (m := 0) rfl (by kernel_rfl)) ?_
        refine Z.l rfl rfl (by rfl) (Z.keepS hs) (by first | exact Z.Yd.load rfl Try.isAgg61 (fun _ => Z.cellB (by first | ((repeat (first | exact List.mem_cons_self | refine List.mem_cons_of_mem _ ?_ | refine List.mem_append_right _ ?_)); done) | fail) rfl) | exact Z.Yd.load rfl Try.isAgg61 (fun _ => Z.cellO (by assumption) (by simp) (by assumption)) | fail "load 5.3") ?_
        refine Z.l rfl rfl (by rfl) (Z.keepS hs) (Z.Yd.lenS rfl Try.underlying61) ?_
        refine Z.lb 1 rfl ?_
        refine Z.lnil ?_
        refine Z.only [0, 1, 25, 26] rfl ?_
        refine Z.nthen ?_
        refine Z.block ?_
        refine Z.loopk (ι := Nat) [0, 1, 25] rfl (fun x => [(26, [], .int .i64 (x : Int))]) (fun x wr => x ≤ m.l.length ∧ SX.St w M wr (bkE g (.slice (some ⟨gs, 0, none⟩) m.l.length cs) so (tickG m t x))) (fun x => m.l.length - x) 0 (by refine ⟨?_, trivial⟩ <;> (first | rfl | (refine Z.lookv rfl ?_; simp; done) | (refine Z.lookv rfl ?_; simp; omega))) ⟨Nat.zero_le _, by rw [show tickG m t 0 = m by unfold tickG; rw [upTo_zero hm.len]]; exact hs⟩ ?_
        clear hs
        rintro i w6 ⟨hi, hs⟩
        refine Z.only [0, 1, 25, 26] rfl ?_
        refine Z.seq ?_
        refine Z.region ?_
        refine Z.lb 1 rfl ?_
        refine Z.lnil ?_
        refine Z.only [0, 1, 25, 26, 27] rfl ?_
        refine Z.nthen ?_
        refine Z.seq ?_
        refine Z.cond rfl (fun hc6 => ?_) (fun hc6 => ?_)
        · first
            | (exfalso; simp at hc6 <;> omega)
            | (
              (try simp at hc6)
              have hlt : i < m.l.length := by omega
              have hmi := hm.tickG hok i
              have hgi : (tickG m t i).chs[i]? = some (m.l[i]!, elt (tickG m t i).b (i : Int)) := hmi.chg (i := i) hlt
              have hfl : ((tickG m t i).chs.flatMap chC).length = m.l.length * 6 := by rw [flat_len ch_len, hmi.chl]; rfl
              have hbb := tkF_bd hm hok hlt
              have eb : elt (tickG m t i).b (i : Int) = elt m.b (i : Int) := by simp only [tickG]; rw [upTo_elt hlt, if_neg (by omega)]
              have hbd := hm.bd i hlt
              obtain ⟨-, -, ⟨r1, r2⟩, ⟨d1, d2⟩, -⟩ := hm.set.lg hlt
              rw [eb] at hgi
              replace hs : SX.St w M _ [SX.Ent.blk g 63 #[.slice (some ⟨gs, 0, none⟩) m.l.length cs, so, .int .i64 m.now], SX.Ent.row (.slice (some ⟨gs, 0, none⟩) m.l.length cs) 72 6 m.l.length ((tickG m t i).chs.flatMap chC), SX.Ent.row so 3 1 m.l.length (ints .i64 (natI (ordL m.l)))] := hs
              refine Z.skip ?_
              refine Z.nthen ?_
              refine Z.seq ?_
              refine Z.block ?_
              refine Z.seq ?_
              refine Z.region ?_
              refine Z.lb 2 rfl ?_
              refine Z.lnil ?_
              refine Z.only [0, 1, 5, 25, 26] rfl ?_
              refine Z.nthen ?_
              refine Z.seq ?_
              refine Z.region ?_
              refine Z.lb 1 rfl ?_
              refine Z.l rfl rfl (by rfl) (Z.keepS hs) (Z.Yd.nilc rfl rfl) ?_
              refine Z.l rfl rfl (by rfl) (Z.keepS hs) (Z.Yd.fieldA (m := 0) rfl (by kernel_rfl)) ?_
              refine Z.l rfl rfl (by rfl) (Z.keepS hs) (by first | exact Z.Yd.load rfl Try.isAgg61 (fun _ => Z.cellB (by first | ((repeat (first | exact List.mem_cons_self | refine List.mem_cons_of_mem _ ?_ | refine List.mem_append_right _ ?_)); done) | fail) rfl) | exact Z.Yd.load rfl Try.isAgg61 (fun _ => Z.cellO (by assumption) (by simp) (by assumption)) | fail "load 8.3") ?_
              refine Z.lb 1 rfl ?_
              refine Z.l rfl rfl (by rfl) (Z.keepS hs) (Z.Yd.elem rfl rfl Try.underlying61 Try.sizeOf72 (fun hG => ⟨(by first | omega | (have hG' := Z.gh rfl hG; simp at hG'; omega)), (by first | omega | (have hG' := Z.gh rfl hG; simp at hG'; omega))⟩)) ?_
              refine Z.lb 1 rfl ?_
              refine Z.lnil ?_
              refine Z.only [0, 1, 6, 25, 26] rfl ?_
              refine Z.nthen ?_
              refine Z.drawK (fun j => j != 26) mixed hs ?_
              clear hs; intro wd9 hs
              refine Z.tb [0, 1] (by kernel_rfl) rfl ⟨_, hs, by first | (simp; done) | exact fun e he => List.mem_append_right _ he⟩ rfl ?_
              refine Z.t 2 rfl rfl rfl (by rfl) (by kernel_rfl) ⟨_, hs, by first | (simp; done) | exact fun e he => List.mem_append_right _ he⟩ (Z.Yd.nilc rfl rfl) ?_
              refine Z.t 3 rfl rfl rfl (by rfl) (by kernel_rfl) ⟨_, hs, by first | (simp; done) | exact fun e he => List.mem_append_right _ he⟩ (Z.Yd.fieldA (m := 0) rfl (by kernel_rfl)) ?_
              refine Z.t 4 rfl rfl rfl (by rfl) (by kernel_rfl) ⟨_, hs, by first | (simp; done) | exact fun e he => List.mem_append_right _ he⟩ (Z.Yd.fieldA (m := 3) rfl (by kernel_rfl)) ?_
              refine Z.t 5 rfl rfl rfl (by rfl) (by kernel_rfl) ⟨_, hs, by first | (simp; done) | exact fun e he => List.mem_append_right _ he⟩ (Z.Yd.load rfl Try.isAgg3 (fun _ => Z.cellR (by first | ((repeat (first | exact List.mem_cons_self | refine List.mem_cons_of_mem _ ?_ | refine List.mem_append_right _ ?_)); done) | fail) (Z.flat_pos ch_len hgi rfl))) ?_
              refine Z.tb [6] (by kernel_rfl) rfl ⟨_, hs, by first | (simp; done) | exact fun e he => List.mem_append_right _ he⟩ rfl ?_
              refine Z.t 7 rfl rfl rfl (by rfl) (by kernel_rfl) ⟨_, hs, by first | (simp; done) | exact fun e he => List.mem_append_right _ he⟩ (Z.Yd.nilc rfl rfl) ?_
              refine Z.t 8 rfl rfl rfl (by rfl) (by kernel_rfl) ⟨_, hs, by first | (simp; done) | exact fun e he => List.mem_append_right _ he⟩ (Z.Yd.fieldA (m := 5) rfl (by kernel_rfl)) ?_
              refine Z.t 9 rfl rfl rfl (by rfl) (by kernel_rfl) ⟨_, hs, by first | (simp; done) | exact fun e he => List.mem_append_right _ he⟩ (Z.Yd.load rfl Try.isAgg3 (fun _ => Z.cellR (by first | ((repeat (first | exact List.mem_cons_self | refine List.mem_cons_of_mem _ ?_ | refine List.mem_append_right _ ?_)); done) | fail) (Z.flat_pos ch_len hgi rfl))) ?_
              refine Z.tb [10] (by kernel_rfl) rfl ⟨_, hs, by first | (simp; done) | exact fun e he => List.mem_append_right _ he⟩ rfl ?_
              refine Z.t 11 rfl rfl rfl (by rfl) (by kernel_rfl) ⟨_, hs, by first | (simp; done) | exact fun e he => List.mem_append_right _ he⟩ (Z.Yd.nilc rfl rfl) ?_
              refine Z.t 12 rfl rfl rfl (by rfl) (by kernel_rfl) ⟨_, hs, by first | (simp; done) | exact fun e he => List.mem_append_right _ he⟩ (Z.Yd.fieldA (m := 0) rfl (by kernel_rfl)) ?_
              refine Z.t 13 rfl rfl rfl (by rfl) (by kernel_rfl) ⟨_, hs, by first | (simp; done) | exact fun e he => List.mem_append_right _ he⟩ (Z.Yd.fieldA (m := 2) rfl (by kernel_rfl)) ?_
              refine Z.t 14 rfl rfl rfl (by rfl) (by kernel_rfl) ⟨_, hs, by first | (simp; done) | exact fun e he => List.mem_append_right _ he⟩ (Z.Yd.load rfl Try.isAgg3 (fun _ => Z.cellR (by first | ((repeat (first | exact List.mem_cons_self | refine List.mem_cons_of_mem _ ?_ | refine List.mem_append_right _ ?_)); done) | fail) (Z.flat_pos ch_len hgi rfl))) ?_
              refine Z.tb [15, 16] (by kernel_rfl) rfl ⟨_, hs, by first | (simp; done) | exact fun e he => List.mem_append_right _ he⟩ rfl ?_
              refine Z.t 17 rfl rfl rfl (by rfl) (by kernel_rfl) ⟨_, hs, by first | (simp; done) | exact fun e he => List.mem_append_right _ he⟩ (Z.Yd.nilc rfl rfl) ?_
              refine Z.t 18 rfl rfl rfl (by rfl) (by kernel_rfl) ⟨_, hs, by first | (simp; done) | exact fun e he => List.mem_append_right _ he⟩ (Z.Yd.fieldA (m := 2) rfl (by kernel_rfl)) ?_
              refine Z.t 19 rfl rfl rfl (by rfl) (by kernel_rfl) ⟨_, hs, by first | (simp; done) | exact fun e he => List.mem_append_right _ he⟩ (by first | exact Z.Yd.load rfl Try.isAgg3 (fun _ => Z.cellB (by first | ((repeat (first | exact List.mem_cons_self | refine List.mem_cons_of_mem _ ?_ | refine List.mem_append_right _ ?_)); done) | fail) rfl) | exact Z.Yd.load rfl Try.isAgg3 (fun _ => Z.cellO (by assumption) (by simp) (by assumption)) | fail "load 9.19") ?_
              refine Z.t 20 rfl rfl rfl (by rfl) (by kernel_rfl) ⟨_, hs, by first | (simp; done) | exact fun e he => List.mem_append_right _ he⟩ (Z.Yd.sub rfl rfl (fun hG => Z.wi64 (by first | omega | (have hG' := Z.gh rfl hG; simp at hG'; omega)))) ?_
              refine Z.t 21 rfl rfl rfl (by rfl) (by kernel_rfl) ⟨_, hs, by first | (simp; done) | exact fun e he => List.mem_append_right _ he⟩ (Z.Yd.mul rfl rfl (fun hG => Z.wi64 (by first | omega | (have hG' := Z.gh rfl hG; simp at hG'; omega)))) ?_
              refine Z.t 22 rfl rfl rfl (by rfl) (by kernel_rfl) ⟨_, hs, by first | (simp; done) | exact fun e he => List.mem_append_right _ he⟩ (Z.Yd.add rfl rfl (fun hG => Z.wi64 (by first | omega | (have hG' := Z.gh rfl hG; simp at hG'; omega)))) ?_
              refine Z.t 23 rfl rfl rfl (by rfl) (by kernel_rfl) ⟨_, hs, by first | (simp; done) | exact fun e he => List.mem_append_right _ he⟩ (Z.Yd.min rfl rfl) ?_
              refine Z.tn 24 rfl rfl (by kernel_rfl) rfl trivial ?_
              refine Z.ZO.quiet rfl (by rfl) (Z.keepS hs) (Z.Yd.nilc rfl rfl) ?_
              refine Z.tk (Dn := fun j => j != 26) (i := 24) (fun _ => ⟨_, hs, by first | (simp; done) | exact fun e he => List.mem_append_right _ he⟩) ?_
              refine Z.t 25 rfl rfl rfl (by rfl) (by kernel_rfl) ⟨_, hs, by first | (simp; done) | exact fun e he => List.mem_append_right _ he⟩ (Z.Yd.fieldA (m := 5) rfl (by kernel_rfl)) ?_
              refine Z.tn 26 rfl rfl (by kernel_rfl) rfl trivial ?_
              first | refine Z.ZO.store rfl rfl hs Try.sizeOf3 rfl rfl rfl (by first | exact SX.at0 | exact SX.at1 | exact SX.at2 | exact SX.at3 | exact SX.at4 | exact SX.at5 | exact Z.at6 | exact Z.at7 | exact Z.at8 | exact Z.at9 | exact Z.at10 | exact Z.at11 | exact Z.at12) (by first | (simp; done) | (simp; omega)) ?_ | refine Z.ZO.storeR rfl rfl hs Try.sizeOf3 rfl rfl rfl (by first | exact SX.at0 | exact SX.at1 | exact SX.at2 | exact SX.at3 | exact SX.at4 | exact SX.at5 | exact Z.at6 | exact Z.at7 | exact Z.at8 | exact Z.at9 | exact Z.at10 | exact Z.at11 | exact Z.at12) (by first | omega | (simp [ints_length]; done) | (simp [ints_length]; omega)) ?_
              clear hs; intro ws hs
              simp only [Nat.zero_add, Nat.add_zero, Nat.reduceAdd, Int.reduceToNat, Nat.reduceMul, List.set_cons_zero, List.set_cons_succ, List.setIfInBounds_toArray] at hs
              refine Z.tk (Dn := fun j => j != 26) (i := 26) (fun h => absurd h (by decide)) ?_
              refine Z.td (by rfl) (by kernel_rfl) ?_
              refine Z.only [0, 1, 25, 26] rfl ?_
              refine Z.nblock ?_
              refine Z.nthen ?_
              refine Z.region ?_
              refine Z.l rfl rfl (by rfl) (Z.keepS hs) (Z.Yd.add rfl rfl (fun hG => Z.wi64 (by first | omega | (have hG' := Z.gh rfl hG; simp at hG'; omega)))) ?_
              refine Z.lb 1 rfl ?_
              refine Z.lnil ?_
              refine Z.only [0, 1, 25, 26] rfl ?_
              refine Z.nthen ?_
              refine Z.again (i + 1) (by refine ⟨?_, ?_, ?_, ?_, trivial⟩ <;> (first | rfl | (refine Z.lookv rfl ?_; simp; done) | (refine Z.lookv rfl ?_; simp; omega))) ⟨by omega, ?_⟩ (by omega)
              rw [Int.toNat_natCast, Z.flat_set (x' := (m.l[i]!, tkF m t i)) ch_len hgi (by decide) rfl] at hs
              have e := chs_set (m := tickG m t i) hmi.len hlt (tkF m t i)
              rw [show (tickG m t i).l[i]! = m.l[i]! from rfl] at e
              rw [e, show ({ tickG m t i with b := (tickG m t i).b.set i (tkF m t i) } : BkV) = tickG m t (i + 1) by simp only [tickG]; rw [upTo_set]] at hs
              exact hs
              )
        · first
            | (exfalso; simp at hc6 <;> omega)
            | (
              (try simp at hc6)
              refine Z.exit ?_
              refine Z.xthen ?_
              refine Z.xthen ?_
              refine Z.xblock ?_
              refine Z.nthen ?_
              refine Z.seq ?_
              refine Z.region ?_
              obtain rfl : i = m.l.length := by omega
              unfold bkE at hs
              refine Z.l rfl rfl (by rfl) (Z.keepS hs) (Z.Yd.pure rfl) ?_
              refine Z.lb 1 rfl ?_
              refine Z.l rfl rfl (by rfl) (Z.keepS hs) (Z.Yd.nilc rfl rfl) ?_
              refine Z.l rfl rfl (by rfl) (Z.keepS hs) (Z.Yd.fieldA (m := 2) rfl (by kernel_rfl)) ?_
              refine Z.le rfl trivial ?_
              first | refine Z.ZO.store rfl rfl hs Try.sizeOf3 rfl rfl rfl (by first | exact SX.at0 | exact SX.at1 | exact SX.at2 | exact SX.at3 | exact SX.at4 | exact SX.at5 | exact Z.at6 | exact Z.at7 | exact Z.at8 | exact Z.at9 | exact Z.at10 | exact Z.at11 | exact Z.at12) (by first | (simp; done) | (simp; omega)) ?_ | refine Z.ZO.storeR rfl rfl hs Try.sizeOf3 rfl rfl rfl (by first | exact SX.at0 | exact SX.at1 | exact SX.at2 | exact SX.at3 | exact SX.at4 | exact SX.at5 | exact Z.at6 | exact Z.at7 | exact Z.at8 | exact Z.at9 | exact Z.at10 | exact Z.at11 | exact Z.at12) (by first | omega | (simp [ints_length]; done) | (simp [ints_length]; omega)) ?_
              clear hs; intro ws hs
              simp only [Nat.zero_add, Nat.add_zero, Nat.reduceAdd, Int.reduceToNat, Nat.reduceMul, List.set_cons_zero, List.set_cons_succ, List.setIfInBounds_toArray] at hs
              refine Z.lnil ?_
              refine Z.only [] rfl ?_
              refine Z.nthen ?_
              refine Z.seq ?_
              refine Z.region ?_
              refine Z.lb 1 rfl ?_
              refine Z.lnil ?_
              refine Z.only [4] rfl ?_
              refine Z.nthen ?_
              refine Z.ret ?_
              -- ret#1
              refine Z.out1 (by exact ⟨rfl, trivial⟩) ?_
              first
              | exact ⟨_, rfl, by rw [eT], by rw [eT]; exact hs⟩
              )
        )
end Go.Proofs.Ythdhobnkclddhaa

/- Buckets: Divide. -/
namespace Go.Proofs.Ythdhobnkclddhaa
open Go.RowKit
set_option linter.unusedSimpArgs false
set_option linter.unusedVariables false
--newlaws

theorem bk_guar (g i n c : Nat) (xs : List (LgV × Int)) (x : LgV) (b d sz : Int) (w : World) (hs : SX.St w (SX.idsOf [SX.Ent.row (.slice (some ⟨g, 0, none⟩) n c) 72 6 n (xs.flatMap chC)]) w [SX.Ent.row (.slice (some ⟨g, 0, none⟩) n c) 72 6 n (xs.flatMap chC)])
    (hg : xs[i]? = some (x, b)) (hl : xs.length = n) (hb : 0 ≤ b ∧ b ≤ 16777216) (hd : 0 ≤ d ∧ d ≤ 16777216) (hz : 0 ≤ sz ∧ sz ≤ 16777216) :
    Calls Try.prog 40 #[.pointer (some ⟨g, 0 + (i : Int).toNat * 6, none⟩), .int .i64 d, .int .i64 sz] w (SX.Ret fun v w' => v = .int .i64 (min (min d b) sz) ∧ SX.St w (SX.idsOf [SX.Ent.row (.slice (some ⟨g, 0, none⟩) n c) 72 6 n (xs.flatMap chC)]) w' [SX.Ent.row (.slice (some ⟨g, 0, none⟩) n c) 72 6 n ((xs.set i (x, b - min (min d b) sz)).flatMap chC)]) := by
  generalize hM : SX.idsOf [SX.Ent.row (.slice (some ⟨g, 0, none⟩) n c) 72 6 n (xs.flatMap chC)] = M at *
  have hfl : (xs.flatMap chC).length = n * 6 := by rw [flat_len ch_len, hl]
  have hin : i < n := by rw [← hl]; exact (List.getElem?_eq_some_iff.1 hg).1
  refine Z.enter Try.func40 rfl Try.ntmps40 rfl rfl ?_
  refine Z.seq ?_
  refine Z.region ?_
  refine Z.lb 1 rfl ?_
  refine Z.lnil ?_
  refine Z.only [0, 1, 2] rfl ?_
  refine Z.nthen ?_
  refine Z.seq ?_
  refine Z.region ?_
  refine Z.lb 2 rfl ?_
  refine Z.l rfl rfl (by rfl) (Z.keepS hs) (Z.Yd.nilc rfl rfl) ?_
  refine Z.l rfl rfl (by rfl) (Z.keepS hs) (Z.Yd.fieldA (m := 5) rfl (by kernel_rfl)) ?_
  refine Z.l rfl rfl (by rfl) (Z.keepS hs) (Z.Yd.load rfl Try.isAgg3 (fun _ => Z.cellR (by first | ((repeat (first | exact List.mem_cons_self | refine List.mem_cons_of_mem _ ?_ | refine List.mem_append_right _ ?_)); done) | fail) (Z.flat_pos ch_len hg rfl))) ?_
  refine Z.lb 1 rfl ?_
  refine Z.l rfl rfl (by rfl) (Z.keepS hs) (Z.Yd.min rfl rfl) ?_
  refine Z.lb 1 rfl ?_
  refine Z.lnil ?_
  refine Z.only [0, 7] rfl ?_
  refine Z.nthen ?_
  refine Z.seq ?_
  refine Z.region ?_
  refine Z.lb 1 rfl ?_
  refine Z.l rfl rfl (by rfl) (Z.keepS hs) (Z.Yd.nilc rfl rfl) ?_
  refine Z.l rfl rfl (by rfl) (Z.keepS hs) (Z.Yd.fieldA (m := 5) rfl (by kernel_rfl)) ?_
  refine Z.l rfl rfl (by rfl) (Z.keepS hs) (Z.Yd.load rfl Try.isAgg3 (fun _ => Z.cellR (by first | ((repeat (first | exact List.mem_cons_self | refine List.mem_cons_of_mem _ ?_ | refine List.mem_append_right _ ?_)); done) | fail) (Z.flat_pos ch_len hg rfl))) ?_
  refine Z.lb 1 rfl ?_
  refine Z.l rfl rfl (by rfl) (Z.keepS hs) (Z.Yd.sub rfl rfl (fun hG => Z.wi64 (by first | omega | (have hG' := Z.gh rfl hG; simp at hG'; omega)))) ?_
  refine Z.l rfl rfl (by rfl) (Z.keepS hs) (Z.Yd.nilc rfl rfl) ?_
  refine Z.l rfl rfl (by rfl) (Z.keepS hs) (Z.Yd.fieldA (m := 5) rfl (by kernel_rfl)) ?_
  refine Z.le rfl trivial ?_
  first | refine Z.ZO.store rfl rfl hs Try.sizeOf3 rfl rfl rfl (by first | exact SX.at0 | exact SX.at1 | exact SX.at2 | exact SX.at3 | exact SX.at4 | exact SX.at5 | exact Z.at6 | exact Z.at7 | exact Z.at8 | exact Z.at9 | exact Z.at10 | exact Z.at11 | exact Z.at12) (by first | (simp; done) | (simp; omega)) ?_ | refine Z.ZO.storeR rfl rfl hs Try.sizeOf3 rfl rfl rfl (by first | exact SX.at0 | exact SX.at1 | exact SX.at2 | exact SX.at3 | exact SX.at4 | exact SX.at5 | exact Z.at6 | exact Z.at7 | exact Z.at8 | exact Z.at9 | exact Z.at10 | exact Z.at11 | exact Z.at12) (by first | omega | (simp [ints_length]; done) | (simp [ints_length]; omega)) ?_
  clear hs; intro ws hs
  simp only [Nat.zero_add, Nat.add_zero, Nat.reduceAdd, Int.reduceToNat, Nat.reduceMul, List.set_cons_zero, List.set_cons_succ, List.setIfInBounds_toArray] at hs
  refine Z.lnil ?_
  refine Z.only [7] rfl ?_
  refine Z.nthen ?_
  refine Z.seq ?_
  refine Z.region ?_
  refine Z.lb 2 rfl ?_
  refine Z.lnil ?_
  refine Z.only [6] rfl ?_
  refine Z.nthen ?_
  refine Z.ret ?_
  -- ret#0
  refine Z.out1 (by exact ⟨rfl, trivial⟩) ?_
  rw [Int.toNat_natCast, Z.flat_set (x' := (x, b - min (min d b) sz)) ch_len hg (by decide) rfl] at hs
  exact ⟨_, rfl, rfl, hs⟩
theorem bk_rest (g i : Nat) (d sz : Int) (w : World) :
    Calls Try.prog 41 #[.pointer (some ⟨g, 0 + (i : Int).toNat * 6, none⟩), .int .i64 d, .int .i64 sz] w (SX.Ret fun v w' => v = .int .i64 (min d sz) ∧ SX.St w [] w' []) := by
  have hs := SX.St.start w
  refine Z.enter Try.func41 rfl Try.ntmps41 rfl rfl ?_
  refine Z.seq ?_
  refine Z.region ?_
  refine Z.lb 1 rfl ?_
  refine Z.lnil ?_
  refine Z.only [1, 2] rfl ?_
  refine Z.nthen ?_
  refine Z.seq ?_
  refine Z.region ?_
  refine Z.lb 2 rfl ?_
  refine Z.l rfl rfl (by rfl) (Z.keepS hs) (Z.Yd.min rfl rfl) ?_
  refine Z.lb 1 rfl ?_
  refine Z.lnil ?_
  refine Z.only [6] rfl ?_
  refine Z.nthen ?_
  refine Z.ret ?_
  -- ret#0
  refine Z.out1 (by exact ⟨rfl, trivial⟩) ?_
  first | exact ⟨_, rfl, rfl, hs⟩ | exact ⟨_, rfl, rfl, hs.sub (List.nil_sublist _)⟩
/-- the way of the first round, or of the second -/
def rfn (r : Nat) : Nat := if r = 0 then 40 else 41
theorem rfn_call (r : Nat) (args : Array Value) (w : World) : (callFunc (rfn r) args).run Try.prog w = .ok (.enter (rfn r) args) w := by
  unfold rfn
  split
  · exact Try.call40 args w
  · exact Try.call41 args w
theorem bk_round (r g i c : Nat) (m : BkV) (dem : List Int) (s : DvS) (w : World) (hs : SX.St w (SX.idsOf [SX.Ent.row (.slice (some ⟨g, 0, none⟩) m.l.length c) 72 6 m.l.length (({ m with b := s.b } : BkV).chs.flatMap chC)]) w [SX.Ent.row (.slice (some ⟨g, 0, none⟩) m.l.length c) 72 6 m.l.length (({ m with b := s.b } : BkV).chs.flatMap chC)])
    (hm : m.ok) (hso : s.ok m dem) (hdm : okDm dem) (hdl : dem.length = m.l.length) (hi : i < m.l.length) :
    Calls Try.prog (rfn r) #[.pointer (some ⟨g, 0 + (i : Int).toNat * 6, none⟩), .int .i64 (elt dem (i : Int) - elt s.out (i : Int)), .int .i64 s.sz] w (SX.Ret fun v w' => v = .int .i64 (amt r dem s i) ∧ SX.St w (SX.idsOf [SX.Ent.row (.slice (some ⟨g, 0, none⟩) m.l.length c) 72 6 m.l.length (({ m with b := s.b } : BkV).chs.flatMap chC)]) w' [SX.Ent.row (.slice (some ⟨g, 0, none⟩) m.l.length c) 72 6 m.l.length (({ m with b := (dst r dem s i).b } : BkV).chs.flatMap chC)]) := by
  have hms := hm.setB hso
  have hgi : ({ m with b := s.b } : BkV).chs[i]? = some (m.l[i]!, elt s.b (i : Int)) := hms.chg hi
  have h1 := hso.og i hi
  have h2 := hso.bg i hi
  have h3 := hm.bd i hi
  have h4 := (hm.set.lg hi).2.2.2.1
  have h5 := hdm.elt (i := i) (by omega)
  have h6 := hso.sz
  by_cases hr : r = 0
  · subst hr
    have e1 : amt 0 dem s i = min (min (elt dem (i : Int) - elt s.out (i : Int)) (elt s.b (i : Int))) s.sz := rfl
    have e2 : (dst 0 dem s i).b = s.b.set i (elt s.b (i : Int) - amt 0 dem s i) := rfl
    have e3 := chs_set (m := { m with b := s.b }) hms.len (i := i) hi (elt s.b (i : Int) - amt 0 dem s i)
    rw [e2, e1]
    rw [e1] at e3
    rw [← e3]
    exact bk_guar g i m.l.length c _ m.l[i]! (elt s.b (i : Int)) _ _ w hs hgi hms.chl ⟨h2.1, by omega⟩ ⟨by omega, by omega⟩ h6
  · have e1 : amt r dem s i = min (elt dem (i : Int) - elt s.out (i : Int)) s.sz := if_neg hr
    have e2 : (dst r dem s i).b = s.b := if_neg hr
    rw [e1, e2, show rfn r = 41 from if_neg hr]
    refine (bk_rest g i _ _ w).mono fun e w' ⟨v, h1, h2, h3⟩ => ⟨v, h1, h2, ?_⟩
    exact (hs.call h3).sub (by simp)
theorem bk_div1 (x : Int) (w : World) : Calls Try.prog 39 #[.int .i64 x] w (SX.Ret fun v w' => v = .bool (decide (0 ≤ x ∧ x ≤ 16777216)) ∧ SX.St w [] w' []) := by
  have hs := SX.St.start w
  refine Z.enter Try.func39 rfl Try.ntmps39 rfl rfl ?_
  refine Z.seq ?_
  refine Z.region ?_
  refine Z.lb 1 rfl ?_
  refine Z.lnil ?_
  refine Z.only [0] rfl ?_
  refine Z.nthen ?_
  refine Z.seq ?_
  refine Z.region ?_
  refine Z.lb 1 rfl ?_
  refine Z.le rfl trivial ?_
  refine Z.ZO.call rfl rfl (by rfl) rfl rfl Try.call27 rfl (bk_between x 0 16777216 _) ?_
  rintro v1_1 w1_1 ⟨rfl, hy⟩
  replace hs := hs.call hy
  clear hy
  try simp only [List.cons_append, List.nil_append, List.append_nil] at hs
  refine Z.lb 1 rfl ?_
  refine Z.lnil ?_
  refine Z.only [2] rfl ?_
  refine Z.nthen ?_
  refine Z.ret ?_
  -- ret#0
  refine Z.out1 (by exact ⟨rfl, trivial⟩) ?_
  first | exact ⟨_, rfl, rfl, hs⟩ | exact ⟨_, rfl, rfl, hs.sub (List.nil_sublist _)⟩
theorem natI_elt {o : List Nat} {k : Nat} (hk : k < o.length) : elt (natI o) (k : Int) = (o[k] : Int) := by
  rw [elt_get (by simp [natI]; exact hk)]
  simp [natI]
set_option maxHeartbeats 1000000 in
set_option maxRecDepth 100000 in
theorem bk_divide (g : Nat) (sv so : Value) (m : BkV) (size : Int) (A : Option Addr) (nd cd : Nat) (dem : List Int) (w : World) (hs : SX.St w (SX.idsOf (bkE g sv so m)) w (bkE g sv so m)) (hm : m.ok)
    (hd : Sx w (SX.idsOf (bkE g sv so m)) A (ints .i64 dem)) (hdl : dem.length = nd) :
    Calls Try.prog 18 #[.pointer (some ⟨g, 0, none⟩), .int .i64 size, .slice A nd cd] w (SX.Ret fun v w' => ∃ ov, v = .tuple #[ov, .int .i64 (divV m size dem).2.2] ∧ SX.St w (SX.idsOf (bkE g sv so m)) w' (SX.Ent.row ov 3 1 (divV m size dem).2.1.length (ints .i64 (divV m size dem).2.1) :: bkE g sv so (divV m size dem).1)) := by
  generalize hM : SX.idsOf (bkE g sv so m) = M at *
  have hpos := hm.pos
  unfold bkE at hs
  obtain ⟨gs, cs, rfl, hcs⟩ := row_form hs (j := 1) rfl (by omega)
  obtain ⟨gq, cq, rfl, hcq⟩ := row_form hs (j := 2) rfl (by omega)
  refine Z.enter Try.func18 rfl Try.ntmps18 rfl rfl ?_
  refine Z.seq ?_
  refine Z.region ?_
  refine Z.lb 2 rfl ?_
  refine Z.lnil ?_
  refine Z.only [0, 1, 2] rfl ?_
  refine Z.nthen ?_
  refine Z.seq ?_
  refine Z.seq ?_
  refine Z.region ?_
  refine Z.lb 1 rfl ?_
  refine Z.le rfl trivial ?_
  refine Z.ZO.call rfl rfl (by rfl) rfl rfl Try.call35 rfl (bk_none g _ _ _ _ _ _ (hs.celOf (cs := [_, _, _]) (by first | ((repeat (first | exact List.mem_cons_self | refine List.mem_cons_of_mem _ ?_ | refine List.mem_append_right _ ?_)); done) | fail))) ?_
  rintro v1_1 w1_1 ⟨rfl, hy⟩
  replace hs := hs.call hy
  clear hy
  try simp only [List.cons_append, List.nil_append, List.append_nil] at hs
  refine Z.lnil ?_
  refine Z.only [0, 1, 2, 15] rfl ?_
  refine Z.nthen ?_
  refine Z.cond rfl (fun h => absurd h (by simp only [decide_eq_true_eq]; omega)) (fun hc1 => ?_)
  refine Z.skip ?_
  refine Z.nthen ?_
  refine Z.seq ?_
  refine Z.seq ?_
  refine Z.region ?_
  refine Z.lb 1 rfl ?_
  refine Z.le rfl trivial ?_
  refine Z.ZO.call rfl rfl (by rfl) rfl rfl Try.call27 rfl (bk_between size 0 16777216 _) ?_
  rintro v3_1 w3_1 ⟨rfl, hy⟩
  replace hs := hs.call hy
  clear hy
  try simp only [List.cons_append, List.nil_append, List.append_nil] at hs
  refine Z.lb 2 rfl ?_
  refine Z.split (s := 19) rfl (fun hsp19 => ?_) (fun hsp19 => ?_)
  · first
      | (exfalso; simp at hsp19 <;> omega)
      | (
        refine Z.yes (s := 19) (b := true) rfl hsp19 rfl ?_
        (try simp at hsp19)
        refine Z.ls rfl rfl rfl (by rfl) ?_
        refine Z.ls rfl rfl rfl (by rfl) ?_
        refine Z.ls rfl rfl rfl (by rfl) ?_
        refine Z.ls rfl rfl rfl (by rfl) ?_
        refine Z.ls rfl rfl rfl (by rfl) ?_
        refine Z.ls rfl rfl rfl (by rfl) ?_
        refine Z.ls rfl rfl rfl (by rfl) ?_
        refine Z.ls rfl rfl rfl (by rfl) ?_
        refine Z.l rfl rfl (by rfl) (Z.keepS hs) (Z.Yd.pickT rfl rfl) ?_
        refine Z.lb 1 rfl ?_
        refine Z.split (s := 29) rfl (fun hsp29 => ?_) (fun hsp29 => ?_)
        · first
            | (exfalso; simp at hsp29 <;> omega)
            | (
              refine Z.yes (s := 29) (b := true) rfl hsp29 rfl ?_
              (try simp at hsp29)
              refine Z.ls rfl rfl rfl (by rfl) ?_
              refine Z.ls rfl rfl rfl (by rfl) ?_
              refine Z.ls rfl rfl rfl (by rfl) ?_
              refine Z.l rfl rfl (by rfl) (Z.keepS hs) (Z.Yd.pickT rfl rfl) ?_
              refine Z.lnil ?_
              refine Z.only [0, 1, 2, 33] rfl ?_
              refine Z.nthen ?_
              refine Z.cond rfl (fun hc3 => ?_) (fun hc3 => ?_)
              · first
                  | (exfalso; simp at hc3 <;> omega)
                  | (
                    (try simp at hc3)
                    have hno : ¬ okD m size dem := by
                      rintro ⟨h1, h2, h3⟩
                      first
                      | omega
                      | (obtain ⟨x, hx1, hx2⟩ := hc3; have := h3 x hx1; omega)
                    have eD : divV m size dem = (m, [], 2) := if_neg hno
                    refine Z.seq ?_
                    refine Z.region ?_
                    refine Z.lb 2 rfl ?_
                    refine Z.lnil ?_
                    refine Z.only [6, 7] rfl ?_
                    refine Z.nthen ?_
                    refine Z.ret ?_
                    repeat (first | refine Z.rthen ?_ | refine Z.rblock ?_ | refine Z.rscope ?_)
                    -- ret#0
                    refine Z.out2 (by exact ⟨rfl, rfl, trivial⟩) ?_
                    first
                    | exact ⟨_, rfl, .slice none 0 0, by rw [eD], by rw [eD]; exact hs.nil 3 1⟩
                    | exact ⟨_, rfl, _, by rw [eD], by rw [eD]; dsimp only; rw [hol2]; exact hs⟩
                    )
              · first
                  | (exfalso; simp at hc3 <;> omega)
                  | (
                    (try simp at hc3)
                    have hok : okD m size dem := ⟨by omega, by omega, fun x hx => by have := hc3 x hx; omega⟩
                    have eD : divV m size dem = ({ m with b := (rounds m size dem 2).b }, (rounds m size dem 2).out, 0) := if_pos hok
                    have hnd : nd = m.l.length := by omega
                    obtain ⟨bd, od, rfl, hdx⟩ := hd.some (by rw [ints_length]; omega)
                    refine Z.skip ?_
                    refine Z.nthen ?_
                    refine Z.seq ?_
                    refine Z.region ?_
                    refine Z.lb 1 rfl ?_
                    refine Z.l rfl rfl (by rfl) (Z.keepS hs) (Z.Yd.lenS rfl Try.underlying28) ?_
                    refine Z.le rfl trivial ?_
                    refine Z.ZO.make1 (i0 := Try.t3) (bytes := 8) rfl rfl (by rfl) hs Try.underlying28 (by kernel_rfl) rfl rfl rfl rfl rfl rfl (by omega) (by unfold maxLen; omega) ?_
                    clear hs; intro g36 w36 hs
                    refine Z.lb 1 rfl ?_
                    refine Z.lnil ?_
                    refine Z.only [0, 1, 2, 8] rfl ?_
                    refine Z.nthen ?_
                    refine Z.seq ?_
                    refine Z.seq ?_
                    refine Z.region ?_
                    have ez : List.replicate nd (Value.int .i64 0) = ints .i64 (List.replicate m.l.length 0) := by subst hnd; simp [ints]
                    rw [ez] at hs
                    subst hnd
                    replace hs : SX.St w M _ [SX.Ent.row (.slice (some ⟨g36, 0, none⟩) m.l.length m.l.length) 3 1 m.l.length (ints .i64 (dv0 m size).out), SX.Ent.blk g _ _, SX.Ent.row _ _ _ _ _, SX.Ent.row _ _ _ _ _] := hs
                    refine Z.l rfl rfl (by rfl) (Z.keepS hs) (Z.Yd.buildL [(0, 1), (1, 1)] [.nilFunc, .nilFunc] rfl rfl (by intro w; kernel_rfl)) ?_
                    refine Z.lb 1 rfl ?_
                    refine Z.lnil ?_
                    refine Z.only [0, 1, 2, 8, 37, 38] rfl ?_
                    refine Z.nthen ?_
                    refine Z.block ?_
                    refine Z.loopk (ι := Nat) [0, 2, 8, 37] rfl (fun x => [(1, [], .int .i64 (rounds m size dem x).sz), (38, [], .int .i64 (x : Int))]) (fun x wr => x ≤ 2 ∧ SX.St w M wr [SX.Ent.row (.slice (some ⟨g36, 0, none⟩) m.l.length m.l.length) 3 1 m.l.length (ints .i64 (rounds m size dem x).out), SX.Ent.blk g 63 #[.slice (some ⟨gs, 0, none⟩) m.l.length cs, .slice (some ⟨gq, 0, none⟩) m.l.length cq, .int .i64 m.now], SX.Ent.row (.slice (some ⟨gs, 0, none⟩) m.l.length cs) 72 6 m.l.length (({ m with b := (rounds m size dem x).b } : BkV).chs.flatMap chC), SX.Ent.row (.slice (some ⟨gq, 0, none⟩) m.l.length cq) 3 1 m.l.length (ints .i64 (natI (ordL m.l)))]) (fun x => 2 - x) 0 (by refine ⟨?_, ?_, trivial⟩ <;> (first | rfl | (refine Z.lookv rfl ?_; simp; done) | (refine Z.lookv rfl ?_; simp; omega))) ⟨by omega, hs⟩ ?_
                    clear hs
                    rintro r w7 ⟨hr, hs⟩
                    refine Z.only [0, 1, 2, 8, 37, 38] rfl ?_
                    refine Z.seq ?_
                    refine Z.region ?_
                    refine Z.lb 1 rfl ?_
                    refine Z.lnil ?_
                    refine Z.only [0, 1, 2, 8, 37, 38, 39] rfl ?_
                    refine Z.nthen ?_
                    refine Z.seq ?_
                    refine Z.cond rfl (fun hc7 => ?_) (fun hc7 => ?_)
                    · first
                        | (exfalso; simp at hc7 <;> omega)
                        | (
                          (try simp at hc7)
                          have hr2 : r < 2 := by omega
                          have hrf := rfn_call r
                          have hidx : (#[Value.func (.func 40) #[] #[], Value.func (.func 41) #[] #[]] : Array Value)[r]? = some (.func (.func (rfn r)) #[] #[]) := by
                            have : r = 0 ∨ r = 1 := by omega
                            rcases this with rfl | rfl <;> rfl
                          refine Z.skip ?_
                          refine Z.nthen ?_
                          refine Z.seq ?_
                          refine Z.block ?_
                          refine Z.seq ?_
                          refine Z.region ?_
                          refine Z.l rfl rfl (by rfl) (Z.keepS hs) (Z.Yd.idx1 rfl rfl Try.underlying82 Try.sizeOf81 Try.isAgg81 (fun _ => ⟨by omega, by omega, by rw [Int.toNat_natCast]; exact hidx⟩)) ?_
                          refine Z.lb 1 rfl ?_
                          refine Z.lnil ?_
                          refine Z.only [0, 1, 2, 8, 10, 37, 38] rfl ?_
                          refine Z.nthen ?_
                          refine Z.seq ?_
                          refine Z.region ?_
                          refine Z.lb 1 rfl ?_
                          refine Z.l rfl rfl (by rfl) (Z.keepS hs) (Z.Yd.nilc rfl rfl) ?_
                          refine Z.l rfl rfl (by rfl) (Z.keepS hs) (Z.Yd.fieldA (m := 1) rfl (by kernel_rfl)) ?_
                          refine Z.l rfl rfl (by rfl) (Z.keepS hs) (by first | exact Z.Yd.load rfl Try.isAgg28 (fun _ => Z.cellB (by first | ((repeat (first | exact List.mem_cons_self | refine List.mem_cons_of_mem _ ?_ | refine List.mem_append_right _ ?_)); done) | fail) rfl) | exact Z.Yd.load rfl Try.isAgg28 (fun _ => Z.cellO (by assumption) (by simp) (by assumption)) | fail "load 9.3") ?_
                          refine Z.l rfl rfl (by rfl) (Z.keepS hs) (Z.Yd.lenS rfl Try.underlying28) ?_
                          refine Z.lb 1 rfl ?_
                          refine Z.lnil ?_
                          refine Z.only [0, 1, 2, 8, 10, 37, 38, 44, 45, 46] rfl ?_
                          refine Z.nthen ?_
                          refine Z.block ?_
                          refine Z.loopk (ι := Nat) [0, 2, 8, 10, 37, 38, 44, 45] rfl (fun x => [(1, [], .int .i64 (rnd r dem (rounds m size dem r) ((ordL m.l).take x)).sz), (46, [], .int .i64 (x : Int))]) (fun x wr => x ≤ m.l.length ∧ SX.St w M wr [SX.Ent.row (.slice (some ⟨g36, 0, none⟩) m.l.length m.l.length) 3 1 m.l.length (ints .i64 (rnd r dem (rounds m size dem r) ((ordL m.l).take x)).out), SX.Ent.blk g 63 #[.slice (some ⟨gs, 0, none⟩) m.l.length cs, .slice (some ⟨gq, 0, none⟩) m.l.length cq, .int .i64 m.now], SX.Ent.row (.slice (some ⟨gs, 0, none⟩) m.l.length cs) 72 6 m.l.length (({ m with b := (rnd r dem (rounds m size dem r) ((ordL m.l).take x)).b } : BkV).chs.flatMap chC), SX.Ent.row (.slice (some ⟨gq, 0, none⟩) m.l.length cq) 3 1 m.l.length (ints .i64 (natI (ordL m.l)))]) (fun x => m.l.length - x) 0 (by refine ⟨?_, ?_, trivial⟩ <;> (first | rfl | (refine Z.lookv rfl ?_; simp; done) | (refine Z.lookv rfl ?_; simp; omega))) ⟨Nat.zero_le _, hs⟩ ?_
                          clear hs
                          rintro k w10 ⟨hk, hs⟩
                          refine Z.only [0, 1, 2, 8, 10, 37, 38, 44, 45, 46] rfl ?_
                          refine Z.seq ?_
                          refine Z.region ?_
                          refine Z.lb 1 rfl ?_
                          refine Z.lnil ?_
                          refine Z.only [0, 1, 2, 8, 10, 37, 38, 44, 45, 46, 47] rfl ?_
                          refine Z.nthen ?_
                          refine Z.seq ?_
                          refine Z.cond rfl (fun hc10 => ?_) (fun hc10 => ?_)
                          · first
                              | (exfalso; simp at hc10 <;> omega)
                              | (
                                (try simp at hc10)
                                have hkl : k < (ordL m.l).length := by rw [ordL_len hm.set]; omega
                                have hnl : (natI (ordL m.l)).length = m.l.length := by simp [natI, ordL_len hm.set]
                                have hst := rnd_take (r := r) (dem := dem) (s := rounds m size dem r) hkl
                                have hso : (rnd r dem (rounds m size dem r) ((ordL m.l).take k)).ok m dem := (rounds_ok hm hok r).fold r fun i hi => ord_lt hm i (List.mem_of_mem_take hi)
                                generalize hsd : rnd r dem (rounds m size dem r) ((ordL m.l).take k) = s at hs hst hso ⊢
                                have hel : elt (natI (ordL m.l)) (k : Int) = ((ordL m.l)[k] : Int) := natI_elt hkl
                                have hil : (ordL m.l)[k] < m.l.length := ord_lt hm _ (List.getElem_mem _)
                                obtain ⟨i, hid⟩ : ∃ i, i = (ordL m.l)[k] := ⟨_, rfl⟩
                                rw [← hid] at hel hil hst
                                have h1 := hso.og i hil
                                have h5 := hok.2.2.elt (i := i) (by omega)
                                have h6 := hso.sz
                                have hol := hso.ol
                                obtain ⟨a1, a2, a3, -⟩ := amt_bd hso r hil
                                have hcl : (ints .i64 (natI (ordL m.l)))[0 + (k : Int).toNat * 1]? = some (.int .i64 (i : Int)) := by rw [← hel]; exact Z.ints_at (by omega) (by omega)
                                refine Z.skip ?_
                                refine Z.nthen ?_
                                refine Z.seq ?_
                                refine Z.block ?_
                                refine Z.seq ?_
                                refine Z.region ?_
                                refine Z.l rfl rfl (by rfl) (Z.keepS hs) (Z.Yd.elem rfl rfl Try.underlying28 Try.sizeOf3 (fun hG => ⟨(by first | omega | (have hG' := Z.gh rfl hG; simp at hG'; omega)), (by first | omega | (have hG' := Z.gh rfl hG; simp at hG'; omega))⟩)) ?_
                                refine Z.l rfl rfl (by rfl) (Z.keepS hs) (Z.Yd.load rfl Try.isAgg3 (fun _ => Z.cellR (by first | ((repeat (first | exact List.mem_cons_self | refine List.mem_cons_of_mem _ ?_ | refine List.mem_append_right _ ?_)); done) | fail) hcl)) ?_
                                refine Z.lb 1 rfl ?_
                                refine Z.lnil ?_
                                refine Z.only [0, 1, 2, 8, 10, 12, 37, 38, 44, 45, 46] rfl ?_
                                refine Z.nthen ?_
                                refine Z.seq ?_
                                refine Z.drawL [SX.Ent.row (.slice (some ⟨g36, 0, none⟩) m.l.length m.l.length) 3 1 m.l.length (ints .i64 s.out), SX.Ent.blk g 63 #[.slice (some ⟨gs, 0, none⟩) m.l.length cs, .slice (some ⟨gq, 0, none⟩) m.l.length cq, .int .i64 m.now]] (fun _ => true) mixed hs ?_
                                clear hs; intro wd12 hs
                                refine Z.tb [0, 1] (by kernel_rfl) rfl ⟨_, hs, by first | (simp; done) | exact fun e he => List.mem_append_right _ he⟩ rfl ?_
                                refine Z.t 2 rfl rfl rfl (by rfl) (by kernel_rfl) ⟨_, hs, by first | (simp; done) | exact fun e he => List.mem_append_right _ he⟩ (Z.Yd.nilc rfl rfl) ?_
                                refine Z.t 3 rfl rfl rfl (by rfl) (by kernel_rfl) ⟨_, hs, by first | (simp; done) | exact fun e he => List.mem_append_right _ he⟩ (Z.Yd.fieldA (m := 0) rfl (by kernel_rfl)) ?_
                                refine Z.t 4 rfl rfl rfl (by rfl) (by kernel_rfl) ⟨_, hs, by first | (simp; done) | exact fun e he => List.mem_append_right _ he⟩ (by first | exact Z.Yd.load rfl Try.isAgg61 (fun _ => Z.cellB (by first | ((repeat (first | exact List.mem_cons_self | refine List.mem_cons_of_mem _ ?_ | refine List.mem_append_right _ ?_)); done) | fail) rfl) | exact Z.Yd.load rfl Try.isAgg61 (fun _ => Z.cellO (by assumption) (by simp) (by assumption)) | fail "load 12.4") ?_
                                refine Z.tb [5] (by kernel_rfl) rfl ⟨_, hs, by first | (simp; done) | exact fun e he => List.mem_append_right _ he⟩ rfl ?_
                                refine Z.t 6 rfl rfl rfl (by rfl) (by kernel_rfl) ⟨_, hs, by first | (simp; done) | exact fun e he => List.mem_append_right _ he⟩ (Z.Yd.elem rfl rfl Try.underlying61 Try.sizeOf72 (fun hG => ⟨(by first | omega | (have hG' := Z.gh rfl hG; simp at hG'; omega)), (by first | omega | (have hG' := Z.gh rfl hG; simp at hG'; omega))⟩)) ?_
                                refine Z.tb [7, 8] (by kernel_rfl) rfl ⟨_, hs, by first | (simp; done) | exact fun e he => List.mem_append_right _ he⟩ rfl ?_
                                refine Z.t 9 rfl rfl rfl (by rfl) (by kernel_rfl) ⟨_, hs, by first | (simp; done) | exact fun e he => List.mem_append_right _ he⟩ (Z.Yd.elem rfl rfl Try.underlying28 Try.sizeOf3 (fun hG => ⟨(by first | omega | (have hG' := Z.gh rfl hG; simp at hG'; omega)), (by first | omega | (have hG' := Z.gh rfl hG; simp at hG'; omega))⟩)) ?_
                                refine Z.t 10 rfl rfl rfl (by rfl) (by kernel_rfl) ⟨_, hs, by first | (simp; done) | exact fun e he => List.mem_append_right _ he⟩ (Z.Yd.load rfl Try.isAgg3 (fun _ => Z.cellXi hdx (by omega) (by omega))) ?_
                                refine Z.tb [11, 12] (by kernel_rfl) rfl ⟨_, hs, by first | (simp; done) | exact fun e he => List.mem_append_right _ he⟩ rfl ?_
                                refine Z.t 13 rfl rfl rfl (by rfl) (by kernel_rfl) ⟨_, hs, by first | (simp; done) | exact fun e he => List.mem_append_right _ he⟩ (Z.Yd.elem rfl rfl Try.underlying28 Try.sizeOf3 (fun hG => ⟨(by first | omega | (have hG' := Z.gh rfl hG; simp at hG'; omega)), (by first | omega | (have hG' := Z.gh rfl hG; simp at hG'; omega))⟩)) ?_
                                refine Z.t 14 rfl rfl rfl (by rfl) (by kernel_rfl) ⟨_, hs, by first | (simp; done) | exact fun e he => List.mem_append_right _ he⟩ (Z.Yd.load rfl Try.isAgg3 (fun _ => Z.cellR (by first | ((repeat (first | exact List.mem_cons_self | refine List.mem_cons_of_mem _ ?_ | refine List.mem_append_right _ ?_)); done) | fail) (Z.ints_at (by omega) (by omega)))) ?_
                                refine Z.t 15 rfl rfl rfl (by rfl) (by kernel_rfl) ⟨_, hs, by first | (simp; done) | exact fun e he => List.mem_append_right _ he⟩ (Z.Yd.sub rfl rfl (fun hG => Z.wi64 (by first | omega | (have hG' := Z.gh rfl hG; simp at hG'; omega)))) ?_
                                refine Z.tb [16] (by kernel_rfl) rfl ⟨_, hs, by first | (simp; done) | exact fun e he => List.mem_append_right _ he⟩ rfl ?_
                                replace hs : SX.St w M _ ([SX.Ent.row _ _ _ _ _] ++ [SX.Ent.row _ _ _ _ _, SX.Ent.blk g _ _, SX.Ent.row _ _ _ _ _]) := hs.sel [2, 0, 1, 3] (by decide)
                                refine Z.tn 17 rfl rfl (by kernel_rfl) rfl trivial ?_
                                refine Z.ZO.call rfl rfl (by rfl) rfl rfl hrf (by first | rfl | simp) (bk_round r gs i cs m dem s _ hs.lend hm hso hok.2.2 (by omega) hil) ?_
                                rintro v12_17 w12_17 ⟨rfl, hz⟩
                                replace hs := hs.regain hz
                                simp only [List.cons_append, List.nil_append] at hs
                                refine Z.tk (Dn := fun _ => true) (i := 17) (fun _ => ⟨_, hs, by first | (simp; done) | exact fun e he => List.mem_append_right _ he⟩) ?_
                                refine Z.tb [18] (by kernel_rfl) rfl ⟨_, hs, by first | (simp; done) | exact fun e he => List.mem_append_right _ he⟩ rfl ?_
                                refine Z.td (by rfl) (by kernel_rfl) ?_
                                refine Z.only [0, 1, 2, 8, 10, 12, 13, 37, 38, 44, 45, 46] rfl ?_
                                refine Z.nthen ?_
                                refine Z.seq ?_
                                refine Z.region ?_
                                refine Z.lb 2 rfl ?_
                                refine Z.l rfl rfl (by rfl) (Z.keepS hs) (Z.Yd.elem rfl rfl Try.underlying28 Try.sizeOf3 (fun hG => ⟨(by first | omega | (have hG' := Z.gh rfl hG; simp at hG'; omega)), (by first | omega | (have hG' := Z.gh rfl hG; simp at hG'; omega))⟩)) ?_
                                refine Z.l rfl rfl (by rfl) (Z.keepS hs) (Z.Yd.load rfl Try.isAgg3 (fun _ => Z.cellR (by first | ((repeat (first | exact List.mem_cons_self | refine List.mem_cons_of_mem _ ?_ | refine List.mem_append_right _ ?_)); done) | fail) (Z.ints_at (by omega) (by omega)))) ?_
                                refine Z.lb 1 rfl ?_
                                refine Z.l rfl rfl (by rfl) (Z.keepS hs) (Z.Yd.add rfl rfl (fun hG => Z.wi64 (by first | omega | (have hG' := Z.gh rfl hG; simp at hG'; omega)))) ?_
                                refine Z.l rfl rfl (by rfl) (Z.keepS hs) (Z.Yd.elem rfl rfl Try.underlying28 Try.sizeOf3 (fun hG => ⟨(by first | omega | (have hG' := Z.gh rfl hG; simp at hG'; omega)), (by first | omega | (have hG' := Z.gh rfl hG; simp at hG'; omega))⟩)) ?_
                                refine Z.le rfl trivial ?_
                                first | refine Z.ZO.store rfl rfl hs Try.sizeOf3 rfl rfl rfl (by first | exact SX.at0 | exact SX.at1 | exact SX.at2 | exact SX.at3 | exact SX.at4 | exact SX.at5 | exact Z.at6 | exact Z.at7 | exact Z.at8 | exact Z.at9 | exact Z.at10 | exact Z.at11 | exact Z.at12) (by first | (simp; done) | (simp; omega)) ?_ | refine Z.ZO.storeR rfl rfl hs Try.sizeOf3 rfl rfl rfl (by first | exact SX.at0 | exact SX.at1 | exact SX.at2 | exact SX.at3 | exact SX.at4 | exact SX.at5 | exact Z.at6 | exact Z.at7 | exact Z.at8 | exact Z.at9 | exact Z.at10 | exact Z.at11 | exact Z.at12) (by first | omega | (simp [ints_length]; done) | (simp [ints_length]; omega)) ?_
                                clear hs; intro ws hs
                                simp only [Nat.zero_add, Nat.add_zero, Nat.reduceAdd, Int.reduceToNat, Nat.reduceMul, List.set_cons_zero, List.set_cons_succ, List.setIfInBounds_toArray] at hs
                                refine Z.lnil ?_
                                refine Z.only [0, 1, 2, 8, 10, 13, 37, 38, 44, 45, 46] rfl ?_
                                refine Z.nthen ?_
                                refine Z.region ?_
                                rw [Int.toNat_natCast, Nat.mul_one] at hs
                                have eo : (ints .i64 s.out).set i (.int .i64 (elt s.out (i : Int) + amt r dem s i)) = ints .i64 (dst r dem s i).out := by simp only [ints, dst, List.map_set]
                                rw [eo] at hs
                                refine Z.l rfl rfl (by rfl) (Z.keepS hs) (Z.Yd.pure rfl) ?_
                                refine Z.lb 1 rfl ?_
                                refine Z.l rfl rfl (by rfl) (Z.keepS hs) (Z.Yd.sub rfl rfl (fun hG => Z.wi64 (by first | omega | (have hG' := Z.gh rfl hG; simp at hG'; omega)))) ?_
                                refine Z.lb 1 rfl ?_
                                refine Z.lnil ?_
                                refine Z.only [0, 1, 2, 8, 10, 37, 38, 44, 45, 46] rfl ?_
                                refine Z.nblock ?_
                                refine Z.nthen ?_
                                refine Z.region ?_
                                refine Z.l rfl rfl (by rfl) (Z.keepS hs) (Z.Yd.add rfl rfl (fun hG => Z.wi64 (by first | omega | (have hG' := Z.gh rfl hG; simp at hG'; omega)))) ?_
                                refine Z.lb 1 rfl ?_
                                refine Z.lnil ?_
                                refine Z.only [0, 1, 2, 8, 10, 37, 38, 44, 45, 46] rfl ?_
                                refine Z.nthen ?_
                                refine Z.again (k + 1) (by refine ⟨?_, ?_, ?_, ?_, ?_, ?_, ?_, ?_, ?_, ?_, trivial⟩ <;> first | rfl | (rw [hst]; rfl)) ⟨by omega, by rw [hst]; exact hs.sel [1, 2, 0, 3] (by decide)⟩ (by omega)
                                )
                          · first
                              | (exfalso; simp at hc10 <;> omega)
                              | (
                                (try simp at hc10)
                                refine Z.exit ?_
                                refine Z.xthen ?_
                                refine Z.xthen ?_
                                refine Z.xblock ?_
                                refine Z.nblock ?_
                                refine Z.nthen ?_
                                refine Z.region ?_
                                refine Z.l rfl rfl (by rfl) (Z.keepS hs) (Z.Yd.add rfl rfl (fun hG => Z.wi64 (by first | omega | (have hG' := Z.gh rfl hG; simp at hG'; omega)))) ?_
                                refine Z.lb 1 rfl ?_
                                refine Z.lnil ?_
                                refine Z.only [0, 1, 2, 8, 37, 38] rfl ?_
                                refine Z.nthen ?_
                                have hkk : (ordL m.l).take k = ordL m.l := List.take_of_length_le (by rw [ordL_len hm.set]; omega)
                                refine Z.again (r + 1) (by refine ⟨?_, ?_, ?_, ?_, ?_, ?_, trivial⟩ <;> first | rfl | (rw [hkk]; rfl)) ⟨by omega, ?_⟩ (by omega)
                                rw [hkk] at hs
                                exact hs
                                )
                          )
                    · first
                        | (exfalso; simp at hc7 <;> omega)
                        | (
                          (try simp at hc7)
                          refine Z.exit ?_
                          refine Z.xthen ?_
                          refine Z.xthen ?_
                          refine Z.xblock ?_
                          refine Z.nthen ?_
                          refine Z.seq ?_
                          refine Z.region ?_
                          obtain rfl : r = 2 := by omega
                          have hol2 := (rounds_ok hm hok 2).ol
                          refine Z.l rfl rfl (by rfl) (Z.keepS hs) (Z.Yd.pure rfl) ?_
                          refine Z.lb 2 rfl ?_
                          refine Z.lnil ?_
                          refine Z.only [6, 7] rfl ?_
                          refine Z.nthen ?_
                          refine Z.ret ?_
                          -- ret#1
                          refine Z.out2 (by exact ⟨rfl, rfl, trivial⟩) ?_
                          first
                          | exact ⟨_, rfl, .slice none 0 0, by rw [eD], by rw [eD]; exact hs.nil 3 1⟩
                          | exact ⟨_, rfl, _, by rw [eD], by rw [eD]; dsimp only; rw [hol2]; exact hs⟩
                          )
                    )
              )
        · first
            | (exfalso; simp at hsp29 <;> omega)
            | (
              refine Z.yes (s := 29) (b := false) rfl hsp29 rfl ?_
              (try simp at hsp29)
              refine Z.lb 1 rfl ?_
              refine Z.yes (s := 29) (b := false) rfl rfl rfl ?_
              refine Z.le rfl (by exact ⟨rfl, trivial⟩) ?_
              refine Z.ZO.call rfl rfl (by rfl) rfl rfl Try.call38 rfl (bk_everyI A nd cd dem 39 #[] (fun x ↦ decide (0 ≤ x ∧ x ≤ 16777216)) _ (hd.st hs) hdl (by omega) Try.call39 (fun x W hW ↦ bk_div1 x W)) ?_
              rintro v3_15 w3_15 ⟨rfl, hy⟩
              replace hs := hs.call hy
              clear hy
              try simp only [List.cons_append, List.nil_append, List.append_nil] at hs
              refine Z.lb 1 rfl ?_
              refine Z.yes (s := 29) (b := false) rfl rfl rfl ?_
              refine Z.l rfl rfl (by rfl) (Z.keepS hs) (Z.Yd.pickF rfl rfl) ?_
              refine Z.lnil ?_
              refine Z.only [0, 1, 2, 33] rfl ?_
              refine Z.nthen ?_
              refine Z.cond rfl (fun hc3 => ?_) (fun hc3 => ?_)
              · first
                  | (exfalso; simp at hc3 <;> omega)
                  | (
                    (try simp at hc3)
                    have hno : ¬ okD m size dem := by
                      rintro ⟨h1, h2, h3⟩
                      first
                      | omega
                      | (obtain ⟨x, hx1, hx2⟩ := hc3; have := h3 x hx1; omega)
                    have eD : divV m size dem = (m, [], 2) := if_neg hno
                    refine Z.seq ?_
                    refine Z.region ?_
                    refine Z.lb 2 rfl ?_
                    refine Z.lnil ?_
                    refine Z.only [6, 7] rfl ?_
                    refine Z.nthen ?_
                    refine Z.ret ?_
                    repeat (first | refine Z.rthen ?_ | refine Z.rblock ?_ | refine Z.rscope ?_)
                    -- ret#2
                    refine Z.out2 (by exact ⟨rfl, rfl, trivial⟩) ?_
                    first
                    | exact ⟨_, rfl, .slice none 0 0, by rw [eD], by rw [eD]; exact hs.nil 3 1⟩
                    | exact ⟨_, rfl, _, by rw [eD], by rw [eD]; dsimp only; rw [hol2]; exact hs⟩
                    )
              · first
                  | (exfalso; simp at hc3 <;> omega)
                  | (
                    (try simp at hc3)
                    have hok : okD m size dem := ⟨by omega, by omega, fun x hx => by have := hc3 x hx; omega⟩
                    have eD : divV m size dem = ({ m with b := (rounds m size dem 2).b }, (rounds m size dem 2).out, 0) := if_pos hok
                    have hnd : nd = m.l.length := by omega
                    obtain ⟨bd, od, rfl, hdx⟩ := hd.some (by rw [ints_length]; omega)
                    refine Z.skip ?_
                    refine Z.nthen ?_
                    refine Z.seq ?_
                    refine Z.region ?_
                    refine Z.lb 1 rfl ?_
                    refine Z.l rfl rfl (by rfl) (Z.keepS hs) (Z.Yd.lenS rfl Try.underlying28) ?_
                    refine Z.le rfl trivial ?_
                    refine Z.ZO.make1 (i0 := Try.t3) (bytes := 8) rfl rfl (by rfl) hs Try.underlying28 (by kernel_rfl) rfl rfl rfl rfl rfl rfl (by omega) (by unfold maxLen; omega) ?_
                    clear hs; intro g36 w36 hs
                    refine Z.lb 1 rfl ?_
                    refine Z.lnil ?_
                    refine Z.only [0, 1, 2, 8] rfl ?_
                    refine Z.nthen ?_
                    refine Z.seq ?_
                    refine Z.seq ?_
                    refine Z.region ?_
                    have ez : List.replicate nd (Value.int .i64 0) = ints .i64 (List.replicate m.l.length 0) := by subst hnd; simp [ints]
                    rw [ez] at hs
                    subst hnd
                    replace hs : SX.St w M _ [SX.Ent.row (.slice (some ⟨g36, 0, none⟩) m.l.length m.l.length) 3 1 m.l.length (ints .i64 (dv0 m size).out), SX.Ent.blk g _ _, SX.Ent.row _ _ _ _ _, SX.Ent.row _ _ _ _ _] := hs
                    refine Z.l rfl rfl (by rfl) (Z.keepS hs) (Z.Yd.buildL [(0, 1), (1, 1)] [.nilFunc, .nilFunc] rfl rfl (by intro w; kernel_rfl)) ?_
                    refine Z.lb 1 rfl ?_
                    refine Z.lnil ?_
                    refine Z.only [0, 1, 2, 8, 37, 38] rfl ?_
                    refine Z.nthen ?_
                    refine Z.block ?_
                    refine Z.loopk (ι := Nat) [0, 2, 8, 37] rfl (fun x => [(1, [], .int .i64 (rounds m size dem x).sz), (38, [], .int .i64 (x : Int))]) (fun x wr => x ≤ 2 ∧ SX.St w M wr [SX.Ent.row (.slice (some ⟨g36, 0, none⟩) m.l.length m.l.length) 3 1 m.l.length (ints .i64 (rounds m size dem x).out), SX.Ent.blk g 63 #[.slice (some ⟨gs, 0, none⟩) m.l.length cs, .slice (some ⟨gq, 0, none⟩) m.l.length cq, .int .i64 m.now], SX.Ent.row (.slice (some ⟨gs, 0, none⟩) m.l.length cs) 72 6 m.l.length (({ m with b := (rounds m size dem x).b } : BkV).chs.flatMap chC), SX.Ent.row (.slice (some ⟨gq, 0, none⟩) m.l.length cq) 3 1 m.l.length (ints .i64 (natI (ordL m.l)))]) (fun x => 2 - x) 0 (by refine ⟨?_, ?_, trivial⟩ <;> (first | rfl | (refine Z.lookv rfl ?_; simp; done) | (refine Z.lookv rfl ?_; simp; omega))) ⟨by omega, hs⟩ ?_
                    clear hs
                    rintro r w7 ⟨hr, hs⟩
                    refine Z.only [0, 1, 2, 8, 37, 38] rfl ?_
                    refine Z.seq ?_
                    refine Z.region ?_
                    refine Z.lb 1 rfl ?_
                    refine Z.lnil ?_
                    refine Z.only [0, 1, 2, 8, 37, 38, 39] rfl ?_
                    refine Z.nthen ?_
                    refine Z.seq ?_
                    refine Z.cond rfl (fun hc7 => ?_) (fun hc7 => ?_)
                    · first
                        | (exfalso; simp at hc7 <;> omega)
                        | (
                          (try simp at hc7)
                          have hr2 : r < 2 := by omega
                          have hrf := rfn_call r
                          have hidx : (#[Value.func (.func 40) #[] #[], Value.func (.func 41) #[] #[]] : Array Value)[r]? = some (.func (.func (rfn r)) #[] #[]) := by
                            have : r = 0 ∨ r = 1 := by omega
                            rcases this with rfl | rfl <;> rfl
                          refine Z.skip ?_
                          refine Z.nthen ?_
                          refine Z.seq ?_
                          refine Z.block ?_
                          refine Z.seq ?_
                          refine Z.region ?_
                          refine Z.l rfl rfl (by rfl) (Z.keepS hs) (Z.Yd.idx1 rfl rfl Try.underlying82 Try.sizeOf81 Try.isAgg81 (fun _ => ⟨by omega, by omega, by rw [Int.toNat_natCast]; exact hidx⟩)) ?_
                          refine Z.lb 1 rfl ?_
                          refine Z.lnil ?_
                          refine Z.only [0, 1, 2, 8, 10, 37, 38] rfl ?_
                          refine Z.nthen ?_
                          refine Z.seq ?_
                          refine Z.region ?_
                          refine Z.lb 1 rfl ?_
                          refine Z.l rfl rfl (by rfl) (Z.keepS hs) (Z.Yd.nilc rfl rfl) ?_
                          refine Z.l rfl rfl (by rfl) (Z.keepS hs) (Z.Yd.fieldA (m := 1) rfl (by kernel_rfl)) ?_
                          refine Z.l rfl rfl (by rfl) (Z.keepS hs) (by first | exact Z.Yd.load rfl Try.isAgg28 (fun _ => Z.cellB (by first | ((repeat (first | exact List.mem_cons_self | refine List.mem_cons_of_mem _ ?_ | refine List.mem_append_right _ ?_)); done) | fail) rfl) | exact Z.Yd.load rfl Try.isAgg28 (fun _ => Z.cellO (by assumption) (by simp) (by assumption)) | fail "load 9.3") ?_
                          refine Z.l rfl rfl (by rfl) (Z.keepS hs) (Z.Yd.lenS rfl Try.underlying28) ?_
                          refine Z.lb 1 rfl ?_
                          refine Z.lnil ?_
                          refine Z.only [0, 1, 2, 8, 10, 37, 38, 44, 45, 46] rfl ?_
                          refine Z.nthen ?_
                          refine Z.block ?_
                          refine Z.loopk (ι := Nat) [0, 2, 8, 10, 37, 38, 44, 45] rfl (fun x => [(1, [], .int .i64 (rnd r dem (rounds m size dem r) ((ordL m.l).take x)).sz), (46, [], .int .i64 (x : Int))]) (fun x wr => x ≤ m.l.length ∧ SX.St w M wr [SX.Ent.row (.slice (some ⟨g36, 0, none⟩) m.l.length m.l.length) 3 1 m.l.length (ints .i64 (rnd r dem (rounds m size dem r) ((ordL m.l).take x)).out), SX.Ent.blk g 63 #[.slice (some ⟨gs, 0, none⟩) m.l.length cs, .slice (some ⟨gq, 0, none⟩) m.l.length cq, .int .i64 m.now], SX.Ent.row (.slice (some ⟨gs, 0, none⟩) m.l.length cs) 72 6 m.l.length (({ m with b := (rnd r dem (rounds m size dem r) ((ordL m.l).take x)).b } : BkV).chs.flatMap chC), SX.Ent.row (.slice (some ⟨gq, 0, none⟩) m.l.length cq) 3 1 m.l.length (ints .i64 (natI (ordL m.l)))]) (fun x => m.l.length - x) 0 (by refine ⟨?_, ?_, trivial⟩ <;> (first | rfl | (refine Z.lookv rfl ?_; simp; done) | (refine Z.lookv rfl ?_; simp; omega))) ⟨Nat.zero_le _, hs⟩ ?_
                          clear hs
                          rintro k w10 ⟨hk, hs⟩
                          refine Z.only [0, 1, 2, 8, 10, 37, 38, 44, 45, 46] rfl ?_
                          refine Z.seq ?_
                          refine Z.region ?_
                          refine Z.lb 1 rfl ?_
                          refine Z.lnil ?_
                          refine Z.only [0, 1, 2, 8, 10, 37, 38, 44, 45, 46, 47] rfl ?_
                          refine Z.nthen ?_
                          refine Z.seq ?_
                          refine Z.cond rfl (fun hc10 => ?_) (fun hc10 => ?_)
                          · first
                              | (exfalso; simp at hc10 <;> omega)
                              | (
                                (try simp at hc10)
                                have hkl : k < (ordL m.l).length := by rw [ordL_len hm.set]; omega
                                have hnl : (natI (ordL m.l)).length = m.l.length := by simp [natI, ordL_len hm.set]
                                have hst := rnd_take (r := r) (dem := dem) (s := rounds m size dem r) hkl
                                have hso : (rnd r dem (rounds m size dem r) ((ordL m.l).take k)).ok m dem := (rounds_ok hm hok r).fold r fun i hi => ord_lt hm i (List.mem_of_mem_take hi)
                                generalize hsd : rnd r dem (rounds m size dem r) ((ordL m.l).take k) = s at hs hst hso ⊢
                                have hel : elt (natI (ordL m.l)) (k : Int) = ((ordL m.l)[k] : Int) := natI_elt hkl
                                have hil : (ordL m.l)[k] < m.l.length := ord_lt hm _ (List.getElem_mem _)
                                obtain ⟨i, hid⟩ : ∃ i, i = (ordL m.l)[k] := ⟨_, rfl⟩
                                rw [← hid] at hel hil hst
                                have h1 := hso.og i hil
                                have h5 := hok.2.2.elt (i := i) (by omega)
                                have h6 := hso.sz
                                have hol := hso.ol
                                obtain ⟨a1, a2, a3, -⟩ := amt_bd hso r hil
                                have hcl : (ints .i64 (natI (ordL m.l)))[0 + (k : Int).toNat * 1]? = some (.int .i64 (i : Int)) := by rw [← hel]; exact Z.ints_at (by omega) (by omega)
                                refine Z.skip ?_
                                refine Z.nthen ?_
                                refine Z.seq ?_
                                refine Z.block ?_
                                refine Z.seq ?_
                                refine Z.region ?_
                                refine Z.l rfl rfl (by rfl) (Z.keepS hs) (Z.Yd.elem rfl rfl Try.underlying28 Try.sizeOf3 (fun hG => ⟨(by first | omega | (have hG' := Z.gh rfl hG; simp at hG'; omega)), (by first | omega | (have hG' := Z.gh rfl hG; simp at hG'; omega))⟩)) ?_
                                refine Z.l rfl rfl (by rfl) (Z.keepS hs) (Z.Yd.load rfl Try.isAgg3 (fun _ => Z.cellR (by first | ((repeat (first | exact List.mem_cons_self | refine List.mem_cons_of_mem _ ?_ | refine List.mem_append_right _ ?_)); done) | fail) hcl)) ?_
                                refine Z.lb 1 rfl ?_
                                refine Z.lnil ?_
                                refine Z.only [0, 1, 2, 8, 10, 12, 37, 38, 44, 45, 46] rfl ?_
                                refine Z.nthen ?_
                                refine Z.seq ?_
                                refine Z.drawL [SX.Ent.row (.slice (some ⟨g36, 0, none⟩) m.l.length m.l.length) 3 1 m.l.length (ints .i64 s.out), SX.Ent.blk g 63 #[.slice (some ⟨gs, 0, none⟩) m.l.length cs, .slice (some ⟨gq, 0, none⟩) m.l.length cq, .int .i64 m.now]] (fun _ => true) mixed hs ?_
                                clear hs; intro wd12 hs
                                refine Z.tb [0, 1] (by kernel_rfl) rfl ⟨_, hs, by first | (simp; done) | exact fun e he => List.mem_append_right _ he⟩ rfl ?_
                                refine Z.t 2 rfl rfl rfl (by rfl) (by kernel_rfl) ⟨_, hs, by first | (simp; done) | exact fun e he => List.mem_append_right _ he⟩ (Z.Yd.nilc rfl rfl) ?_
                                refine Z.t 3 rfl rfl rfl (by rfl) (by kernel_rfl) ⟨_, hs, by first | (simp; done) | exact fun e he => List.mem_append_right _ he⟩ (Z.Yd.fieldA (m := 0) rfl (by kernel_rfl)) ?_
                                refine Z.t 4 rfl rfl rfl (by rfl) (by kernel_rfl) ⟨_, hs, by first | (simp; done) | exact fun e he => List.mem_append_right _ he⟩ (by first | exact Z.Yd.load rfl Try.isAgg61 (fun _ => Z.cellB (by first | ((repeat (first | exact List.mem_cons_self | refine List.mem_cons_of_mem _ ?_ | refine List.mem_append_right _ ?_)); done) | fail) rfl) | exact Z.Yd.load rfl Try.isAgg61 (fun _ => Z.cellO (by assumption) (by simp) (by assumption)) | fail "load 12.4") ?_
                                refine Z.tb [5] (by kernel_rfl) rfl ⟨_, hs, by first | (simp; done) | exact fun e he => List.mem_append_right _ he⟩ rfl ?_
                                refine Z.t 6 rfl rfl rfl (by rfl) (by kernel_rfl) ⟨_, hs, by first | (simp; done) | exact fun e he => List.mem_append_right _ he⟩ (Z.Yd.elem rfl rfl Try.underlying61 Try.sizeOf72 (fun hG => ⟨(by first | omega | (have hG' := Z.gh rfl hG; simp at hG'; omega)), (by first | omega | (have hG' := Z.gh rfl hG; simp at hG'; omega))⟩)) ?_
                                refine Z.tb [7, 8] (by kernel_rfl) rfl ⟨_, hs, by first | (simp; done) | exact fun e he => List.mem_append_right _ he⟩ rfl ?_
                                refine Z.t 9 rfl rfl rfl (by rfl) (by kernel_rfl) ⟨_, hs, by first | (simp; done) | exact fun e he => List.mem_append_right _ he⟩ (Z.Yd.elem rfl rfl Try.underlying28 Try.sizeOf3 (fun hG => ⟨(by first | omega | (have hG' := Z.gh rfl hG; simp at hG'; omega)), (by first | omega | (have hG' := Z.gh rfl hG; simp at hG'; omega))⟩)) ?_
                                refine Z.t 10 rfl rfl rfl (by rfl) (by kernel_rfl) ⟨_, hs, by first | (simp; done) | exact fun e he => List.mem_append_right _ he⟩ (Z.Yd.load rfl Try.isAgg3 (fun _ => Z.cellXi hdx (by omega) (by omega))) ?_
                                refine Z.tb [11, 12] (by kernel_rfl) rfl ⟨_, hs, by first | (simp; done) | exact fun e he => List.mem_append_right _ he⟩ rfl ?_
                                refine Z.t 13 rfl rfl rfl (by rfl) (by kernel_rfl) ⟨_, hs, by first | (simp; done) | exact fun e he => List.mem_append_right _ he⟩ (Z.Yd.elem rfl rfl Try.underlying28 Try.sizeOf3 (fun hG => ⟨(by first | omega | (have hG' := Z.gh rfl hG; simp at hG'; omega)), (by first | omega | (have hG' := Z.gh rfl hG; simp at hG'; omega))⟩)) ?_
                                refine Z.t 14 rfl rfl rfl (by rfl) (by kernel_rfl) ⟨_, hs, by first | (simp; done) | exact fun e he => List.mem_append_right _ he⟩ (Z.Yd.load rfl Try.isAgg3 (fun _ => Z.cellR (by first | ((repeat (first | exact List.mem_cons_self | refine List.mem_cons_of_mem _ ?_ | refine List.mem_append_right _ ?_)); done) | fail) (Z.ints_at (by omega) (by omega)))) ?_
                                refine Z.t 15 rfl rfl rfl (by rfl) (by kernel_rfl) ⟨_, hs, by first | (simp; done) | exact fun e he => List.mem_append_right _ he⟩ (Z.Yd.sub rfl rfl (fun hG => Z.wi64 (by first | omega | (have hG' := Z.gh rfl hG; simp at hG'; omega)))) ?_
                                refine Z.tb [16] (by kernel_rfl) rfl ⟨_, hs, by first | (simp; done) | exact fun e he => List.mem_append_right _ he⟩ rfl ?_
                                replace hs : SX.St w M _ ([SX.Ent.row _ _ _ _ _] ++ [SX.Ent.row _ _ _ _ _, SX.Ent.blk g _ _, SX.Ent.row _ _ _ _ _]) := hs.sel [2, 0, 1, 3] (by decide)
                                refine Z.tn 17 rfl rfl (by kernel_rfl) rfl trivial ?_
                                refine Z.ZO.call rfl rfl (by rfl) rfl rfl hrf (by first | rfl | simp) (bk_round r gs i cs m dem s _ hs.lend hm hso hok.2.2 (by omega) hil) ?_
                                rintro v12_17 w12_17 ⟨rfl, hz⟩
                                replace hs := hs.regain hz
                                simp only [List.cons_append, List.nil_append] at hs
                                refine Z.tk (Dn := fun _ => true) (i := 17) (fun _ => ⟨_, hs, by first | (simp; done) | exact fun e he => List.mem_append_right _ he⟩) ?_
                                refine Z.tb [18] (by kernel_rfl) rfl ⟨_, hs, by first | (simp; done) | exact fun e he => List.mem_append_right _ he⟩ rfl ?_
                                refine Z.td (by rfl) (by kernel_rfl) ?_
                                refine Z.only [0, 1, 2, 8, 10, 12, 13, 37, 38, 44, 45, 46] rfl ?_
                                refine Z.nthen ?_
                                refine Z.seq ?_
                                refine Z.region ?_
                                refine Z.lb 2 rfl ?_
                                refine Z.l rfl rfl (by rfl) (Z.keepS hs) (Z.Yd.elem rfl rfl Try.underlying28 Try.sizeOf3 (fun hG => ⟨(by first | omega | (have hG' := Z.gh rfl hG; simp at hG'; omega)), (by first | omega | (have hG' := Z.gh rfl hG; simp at hG'; omega))⟩)) ?_
                                refine Z.l rfl rfl (by rfl) (Z.keepS hs) (Z.Yd.load rfl Try.isAgg3 (fun _ => Z.cellR (by first | ((repeat (first | exact List.mem_cons_self | refine List.mem_cons_of_mem _ ?_ | refine List.mem_append_right _ ?_)); done) | fail) (Z.ints_at (by omega) (by omega)))) ?_
                                refine Z.lb 1 rfl ?_
                                refine Z.l rfl rfl (by rfl) (Z.keepS hs) (Z.Yd.add rfl rfl (fun hG => Z.wi64 (by first | omega | (have hG' := Z.gh rfl hG; simp at hG'; omega)))) ?_
                                refine Z.l rfl rfl (by rfl) (Z.keepS hs) (Z.Yd.elem rfl rfl Try.underlying28 Try.sizeOf3 (fun hG => ⟨(by first | omega | (have hG' := Z.gh rfl hG; simp at hG'; omega)), (by first | omega | (have hG' := Z.gh rfl hG; simp at hG'; omega))⟩)) ?_
                                refine Z.le rfl trivial ?_
                                first | refine Z.ZO.store rfl rfl hs Try.sizeOf3 rfl rfl rfl (by first | exact SX.at0 | exact SX.at1 | exact SX.at2 | exact SX.at3 | exact SX.at4 | exact SX.at5 | exact Z.at6 | exact Z.at7 | exact Z.at8 | exact Z.at9 | exact Z.at10 | exact Z.at11 | exact Z.at12) (by first | (simp; done) | (simp; omega)) ?_ | refine Z.ZO.storeR rfl rfl hs Try.sizeOf3 rfl rfl rfl (by first | exact SX.at0 | exact SX.at1 | exact SX.at2 | exact SX.at3 | exact SX.at4 | exact SX.at5 | exact Z.at6 | exact Z.at7 | exact Z.at8 | exact Z.at9 | exact Z.at10 | exact Z.at11 | exact Z.at12) (by first | omega | (simp [ints_length]; done) | (simp [ints_length]; omega)) ?_
                                clear hs; intro ws hs
                                simp only [Nat.zero_add, Nat.add_zero, Nat.reduceAdd, Int.reduceToNat, Nat.reduceMul, List.set_cons_zero, List.set_cons_succ, List.setIfInBounds_toArray] at hs
                                refine Z.lnil ?_
                                refine Z.only [0, 1, 2, 8, 10, 13, 37, 38, 44, 45, 46] rfl ?_
                                refine Z.nthen ?_
                                refine Z.region ?_
                                rw [Int.toNat_natCast, Nat.mul_one] at hs
                                have eo : (ints .i64 s.out).set i (.int .i64 (elt s.out (i : Int) + amt r dem s i)) = ints .i64 (dst r dem s i).out := by simp only [ints, dst, List.map_set]
                                rw [eo] at hs
                                refine Z.l rfl rfl (by rfl) (Z.keepS hs) (Z.Yd.pure rfl) ?_
                                refine Z.lb 1 rfl ?_
                                refine Z.l rfl rfl (by rfl) (Z.keepS hs) (Z.Yd.sub rfl rfl (fun hG => Z.wi64 (by first | omega | (have hG' := Z.gh rfl hG; simp at hG'; omega)))) ?_
                                refine Z.lb 1 rfl ?_
                                refine Z.lnil ?_
                                refine Z.only [0, 1, 2, 8, 10, 37, 38, 44, 45, 46] rfl ?_
                                refine Z.nblock ?_
                                refine Z.nthen ?_
                                refine Z.region ?_
                                refine Z.l rfl rfl (by rfl) (Z.keepS hs) (Z.Yd.add rfl rfl (fun hG => Z.wi64 (by first | omega | (have hG' := Z.gh rfl hG; simp at hG'; omega)))) ?_
                                refine Z.lb 1 rfl ?_
                                refine Z.lnil ?_
                                refine Z.only [0, 1, 2, 8, 10, 37, 38, 44, 45, 46] rfl ?_
                                refine Z.nthen ?_
                                refine Z.again (k + 1) (by refine ⟨?_, ?_, ?_, ?_, ?_, ?_, ?_, ?_, ?_, ?_, trivial⟩ <;> first | rfl | (rw [hst]; rfl)) ⟨by omega, by rw [hst]; exact hs.sel [1, 2, 0, 3] (by decide)⟩ (by omega)
                                )
                          · first
                              | (exfalso; simp at hc10 <;> omega)
                              | (
                                (try simp at hc10)
                                refine Z.exit ?_
                                refine Z.xthen ?_
                                refine Z.xthen ?_
                                refine Z.xblock ?_
                                refine Z.nblock ?_
                                refine Z.nthen ?_
                                refine Z.region ?_
                                refine Z.l rfl rfl (by rfl) (Z.keepS hs) (Z.Yd.add rfl rfl (fun hG => Z.wi64 (by first | omega | (have hG' := Z.gh rfl hG; simp at hG'; omega)))) ?_
                                refine Z.lb 1 rfl ?_
                                refine Z.lnil ?_
                                refine Z.only [0, 1, 2, 8, 37, 38] rfl ?_
                                refine Z.nthen ?_
                                have hkk : (ordL m.l).take k = ordL m.l := List.take_of_length_le (by rw [ordL_len hm.set]; omega)
                                refine Z.again (r + 1) (by refine ⟨?_, ?_, ?_, ?_, ?_, ?_, trivial⟩ <;> first | rfl | (rw [hkk]; rfl)) ⟨by omega, ?_⟩ (by omega)
                                rw [hkk] at hs
                                exact hs
                                )
                          )
                    · first
                        | (exfalso; simp at hc7 <;> omega)
                        | (
                          (try simp at hc7)
                          refine Z.exit ?_
                          refine Z.xthen ?_
                          refine Z.xthen ?_
                          refine Z.xblock ?_
                          refine Z.nthen ?_
                          refine Z.seq ?_
                          refine Z.region ?_
                          obtain rfl : r = 2 := by omega
                          have hol2 := (rounds_ok hm hok 2).ol
                          refine Z.l rfl rfl (by rfl) (Z.keepS hs) (Z.Yd.pure rfl) ?_
                          refine Z.lb 2 rfl ?_
                          refine Z.lnil ?_
                          refine Z.only [6, 7] rfl ?_
                          refine Z.nthen ?_
                          refine Z.ret ?_
                          -- ret#3
                          refine Z.out2 (by exact ⟨rfl, rfl, trivial⟩) ?_
                          first
                          | exact ⟨_, rfl, .slice none 0 0, by rw [eD], by rw [eD]; exact hs.nil 3 1⟩
                          | exact ⟨_, rfl, _, by rw [eD], by rw [eD]; dsimp only; rw [hol2]; exact hs⟩
                          )
                    )
              )
        )
  · first
      | (exfalso; simp at hsp19 <;> omega)
      | (
        refine Z.yes (s := 19) (b := false) rfl hsp19 rfl ?_
        (try simp at hsp19)
        refine Z.lb 1 rfl ?_
        refine Z.l rfl rfl (by rfl) (Z.keepS hs) (Z.Yd.lenS rfl Try.underlying28) ?_
        refine Z.lb 1 rfl ?_
        refine Z.l rfl rfl (by rfl) (Z.keepS hs) (Z.Yd.nilc rfl rfl) ?_
        refine Z.l rfl rfl (by rfl) (Z.keepS hs) (Z.Yd.fieldA (m := 0) rfl (by kernel_rfl)) ?_
        refine Z.l rfl rfl (by rfl) (Z.keepS hs) (by first | exact Z.Yd.load rfl Try.isAgg61 (fun _ => Z.cellB (by first | ((repeat (first | exact List.mem_cons_self | refine List.mem_cons_of_mem _ ?_ | refine List.mem_append_right _ ?_)); done) | fail) rfl) | exact Z.Yd.load rfl Try.isAgg61 (fun _ => Z.cellO (by assumption) (by simp) (by assumption)) | fail "load 3.9") ?_
        refine Z.l rfl rfl (by rfl) (Z.keepS hs) (Z.Yd.lenS rfl Try.underlying61) ?_
        refine Z.lb 1 rfl ?_
        refine Z.yes (s := 19) (b := false) rfl rfl rfl ?_
        refine Z.l rfl rfl (by rfl) (Z.keepS hs) (Z.Yd.pickF rfl rfl) ?_
        refine Z.lb 1 rfl ?_
        refine Z.split (s := 29) rfl (fun hsp29 => ?_) (fun hsp29 => ?_)
        · first
            | (exfalso; simp at hsp29 <;> omega)
            | (
              refine Z.yes (s := 29) (b := true) rfl hsp29 rfl ?_
              (try simp at hsp29)
              refine Z.ls rfl rfl rfl (by rfl) ?_
              refine Z.ls rfl rfl rfl (by rfl) ?_
              refine Z.ls rfl rfl rfl (by rfl) ?_
              refine Z.l rfl rfl (by rfl) (Z.keepS hs) (Z.Yd.pickT rfl rfl) ?_
              refine Z.lnil ?_
              refine Z.only [0, 1, 2, 33] rfl ?_
              refine Z.nthen ?_
              refine Z.cond rfl (fun hc3 => ?_) (fun hc3 => ?_)
              · first
                  | (exfalso; simp at hc3 <;> omega)
                  | (
                    (try simp at hc3)
                    have hno : ¬ okD m size dem := by
                      rintro ⟨h1, h2, h3⟩
                      first
                      | omega
                      | (obtain ⟨x, hx1, hx2⟩ := hc3; have := h3 x hx1; omega)
                    have eD : divV m size dem = (m, [], 2) := if_neg hno
                    refine Z.seq ?_
                    refine Z.region ?_
                    refine Z.lb 2 rfl ?_
                    refine Z.lnil ?_
                    refine Z.only [6, 7] rfl ?_
                    refine Z.nthen ?_
                    refine Z.ret ?_
                    repeat (first | refine Z.rthen ?_ | refine Z.rblock ?_ | refine Z.rscope ?_)
                    -- ret#4
                    refine Z.out2 (by exact ⟨rfl, rfl, trivial⟩) ?_
                    first
                    | exact ⟨_, rfl, .slice none 0 0, by rw [eD], by rw [eD]; exact hs.nil 3 1⟩
                    | exact ⟨_, rfl, _, by rw [eD], by rw [eD]; dsimp only; rw [hol2]; exact hs⟩
                    )
              · first
                  | (exfalso; simp at hc3 <;> omega)
                  | (
                    (try simp at hc3)
                    have hok : okD m size dem := ⟨by omega, by omega, fun x hx => by have := hc3 x hx; omega⟩
                    have eD : divV m size dem = ({ m with b := (rounds m size dem 2).b }, (rounds m size dem 2).out, 0) := if_pos hok
                    have hnd : nd = m.l.length := by omega
                    obtain ⟨bd, od, rfl, hdx⟩ := hd.some (by rw [ints_length]; omega)
                    refine Z.skip ?_
                    refine Z.nthen ?_
                    refine Z.seq ?_
                    refine Z.region ?_
                    refine Z.lb 1 rfl ?_
                    refine Z.l rfl rfl (by rfl) (Z.keepS hs) (Z.Yd.lenS rfl Try.underlying28) ?_
                    refine Z.le rfl trivial ?_
                    refine Z.ZO.make1 (i0 := Try.t3) (bytes := 8) rfl rfl (by rfl) hs Try.underlying28 (by kernel_rfl) rfl rfl rfl rfl rfl rfl (by omega) (by unfold maxLen; omega) ?_
                    clear hs; intro g36 w36 hs
                    refine Z.lb 1 rfl ?_
                    refine Z.lnil ?_
                    refine Z.only [0, 1, 2, 8] rfl ?_
                    refine Z.nthen ?_
                    refine Z.seq ?_
                    refine Z.seq ?_
                    refine Z.region ?_
                    have ez : List.replicate nd (Value.int .i64 0) = ints .i64 (List.replicate m.l.length 0) := by subst hnd; simp [ints]
                    rw [ez] at hs
                    subst hnd
                    replace hs : SX.St w M _ [SX.Ent.row (.slice (some ⟨g36, 0, none⟩) m.l.length m.l.length) 3 1 m.l.length (ints .i64 (dv0 m size).out), SX.Ent.blk g _ _, SX.Ent.row _ _ _ _ _, SX.Ent.row _ _ _ _ _] := hs
                    refine Z.l rfl rfl (by rfl) (Z.keepS hs) (Z.Yd.buildL [(0, 1), (1, 1)] [.nilFunc, .nilFunc] rfl rfl (by intro w; kernel_rfl)) ?_
                    refine Z.lb 1 rfl ?_
                    refine Z.lnil ?_
                    refine Z.only [0, 1, 2, 8, 37, 38] rfl ?_
                    refine Z.nthen ?_
                    refine Z.block ?_
                    refine Z.loopk (ι := Nat) [0, 2, 8, 37] rfl (fun x => [(1, [], .int .i64 (rounds m size dem x).sz), (38, [], .int .i64 (x : Int))]) (fun x wr => x ≤ 2 ∧ SX.St w M wr [SX.Ent.row (.slice (some ⟨g36, 0, none⟩) m.l.length m.l.length) 3 1 m.l.length (ints .i64 (rounds m size dem x).out), SX.Ent.blk g 63 #[.slice (some ⟨gs, 0, none⟩) m.l.length cs, .slice (some ⟨gq, 0, none⟩) m.l.length cq, .int .i64 m.now], SX.Ent.row (.slice (some ⟨gs, 0, none⟩) m.l.length cs) 72 6 m.l.length (({ m with b := (rounds m size dem x).b } : BkV).chs.flatMap chC), SX.Ent.row (.slice (some ⟨gq, 0, none⟩) m.l.length cq) 3 1 m.l.length (ints .i64 (natI (ordL m.l)))]) (fun x => 2 - x) 0 (by refine ⟨?_, ?_, trivial⟩ <;> (first | rfl | (refine Z.lookv rfl ?_; simp; done) | (refine Z.lookv rfl ?_; simp; omega))) ⟨by omega, hs⟩ ?_
                    clear hs
                    rintro r w7 ⟨hr, hs⟩
                    refine Z.only [0, 1, 2, 8, 37, 38] rfl ?_
                    refine Z.seq ?_
                    refine Z.region ?_
                    refine Z.lb 1 rfl ?_
                    refine Z.lnil ?_
                    refine Z.only [0, 1, 2, 8, 37, 38, 39] rfl ?_
                    refine Z.nthen ?_
                    refine Z.seq ?_
                    refine Z.cond rfl (fun hc7 => ?_) (fun hc7 => ?_)
                    · first
                        | (exfalso; simp at hc7 <;> omega)
                        | (
                          (try simp at hc7)
                          have hr2 : r < 2 := by omega
                          have hrf := rfn_call r
                          have hidx : (#[Value.func (.func 40) #[] #[], Value.func (.func 41) #[] #[]] : Array Value)[r]? = some (.func (.func (rfn r)) #[] #[]) := by
                            have : r = 0 ∨ r = 1 := by omega
                            rcases this with rfl | rfl <;> rfl
                          refine Z.skip ?_
                          refine Z.nthen ?_
                          refine Z.seq ?_
                          refine Z.block ?_
                          refine Z.seq ?_
                          refine Z.region ?_
                          refine Z.l rfl rfl (by rfl) (Z.keepS hs) (Z.Yd.idx1 rfl rfl Try.underlying82 Try.sizeOf81 Try.isAgg81 (fun _ => ⟨by omega, by omega, by rw [Int.toNat_natCast]; exact hidx⟩)) ?_
                          refine Z.lb 1 rfl ?_
                          refine Z.lnil ?_
                          refine Z.only [0, 1, 2, 8, 10, 37, 38] rfl ?_
                          refine Z.nthen ?_
                          refine Z.seq ?_
                          refine Z.region ?_
                          refine Z.lb 1 rfl ?_
                          refine Z.l rfl rfl (by rfl) (Z.keepS hs) (Z.Yd.nilc rfl rfl) ?_
                          refine Z.l rfl rfl (by rfl) (Z.keepS hs) (Z.Yd.fieldA (m := 1) rfl (by kernel_rfl)) ?_
                          refine Z.l rfl rfl (by rfl) (Z.keepS hs) (by first | exact Z.Yd.load rfl Try.isAgg28 (fun _ => Z.cellB (by first | ((repeat (first | exact List.mem_cons_self | refine List.mem_cons_of_mem _ ?_ | refine List.mem_append_right _ ?_)); done) | fail) rfl) | exact Z.Yd.load rfl Try.isAgg28 (fun _ => Z.cellO (by assumption) (by simp) (by assumption)) | fail "load 9.3") ?_
                          refine Z.l rfl rfl (by rfl) (Z.keepS hs) (Z.Yd.lenS rfl Try.underlying28) ?_
                          refine Z.lb 1 rfl ?_
                          refine Z.lnil ?_
                          refine Z.only [0, 1, 2, 8, 10, 37, 38, 44, 45, 46] rfl ?_
                          refine Z.nthen ?_
                          refine Z.block ?_
                          refine Z.loopk (ι := Nat) [0, 2, 8, 10, 37, 38, 44, 45] rfl (fun x => [(1, [], .int .i64 (rnd r dem (rounds m size dem r) ((ordL m.l).take x)).sz), (46, [], .int .i64 (x : Int))]) (fun x wr => x ≤ m.l.length ∧ SX.St w M wr [SX.Ent.row (.slice (some ⟨g36, 0, none⟩) m.l.length m.l.length) 3 1 m.l.length (ints .i64 (rnd r dem (rounds m size dem r) ((ordL m.l).take x)).out), SX.Ent.blk g 63 #[.slice (some ⟨gs, 0, none⟩) m.l.length cs, .slice (some ⟨gq, 0, none⟩) m.l.length cq, .int .i64 m.now], SX.Ent.row (.slice (some ⟨gs, 0, none⟩) m.l.length cs) 72 6 m.l.length (({ m with b := (rnd r dem (rounds m size dem r) ((ordL m.l).take x)).b } : BkV).chs.flatMap chC), SX.Ent.row (.slice (some ⟨gq, 0, none⟩) m.l.length cq) 3 1 m.l.length (ints .i64 (natI (ordL m.l)))]) (fun x => m.l.length - x) 0 (by refine ⟨?_, ?_, trivial⟩ <;> (first | rfl | (refine Z.lookv rfl ?_; simp; done) | (refine Z.lookv rfl ?_; simp; omega))) ⟨Nat.zero_le _, hs⟩ ?_
                          clear hs
                          rintro k w10 ⟨hk, hs⟩
                          refine Z.only [0, 1, 2, 8, 10, 37, 38, 44, 45, 46] rfl ?_
                          refine Z.seq ?_
                          refine Z.region ?_
                          refine Z.lb 1 rfl ?_
                          refine Z.lnil ?_
                          refine Z.only [0, 1, 2, 8, 10, 37, 38, 44, 45, 46, 47] rfl ?_
                          refine Z.nthen ?_
                          refine Z.seq ?_
                          refine Z.cond rfl (fun hc10 => ?_) (fun hc10 => ?_)
                          · first
                              | (exfalso; simp at hc10 <;> omega)
                              | (
                                (try simp at hc10)
                                have hkl : k < (ordL m.l).length := by rw [ordL_len hm.set]; omega
                                have hnl : (natI (ordL m.l)).length = m.l.length := by simp [natI, ordL_len hm.set]
                                have hst := rnd_take (r := r) (dem := dem) (s := rounds m size dem r) hkl
                                have hso : (rnd r dem (rounds m size dem r) ((ordL m.l).take k)).ok m dem := (rounds_ok hm hok r).fold r fun i hi => ord_lt hm i (List.mem_of_mem_take hi)
                                generalize hsd : rnd r dem (rounds m size dem r) ((ordL m.l).take k) = s at hs hst hso ⊢
                                have hel : elt (natI (ordL m.l)) (k : Int) = ((ordL m.l)[k] : Int) := natI_elt hkl
                                have hil : (ordL m.l)[k] < m.l.length := ord_lt hm _ (List.getElem_mem _)
                                obtain ⟨i, hid⟩ : ∃ i, i = (ordL m.l)[k] := ⟨_, rfl⟩
                                rw [← hid] at hel hil hst
                                have h1 := hso.og i hil
                                have h5 := hok.2.2.elt (i := i) (by omega)
                                have h6 := hso.sz
                                have hol := hso.ol
                                obtain ⟨a1, a2, a3, -⟩ := amt_bd hso r hil
                                have hcl : (ints .i64 (natI (ordL m.l)))[0 + (k : Int).toNat * 1]? = some (.int .i64 (i : Int)) := by rw [← hel]; exact Z.ints_at (by omega) (by omega)
                                refine Z.skip ?_
                                refine Z.nthen ?_
                                refine Z.seq ?_
                                refine Z.block ?_
                                refine Z.seq ?_
                                refine Z.region ?_
                                refine Z.l rfl rfl (by rfl) (Z.keepS hs) (Z.Yd.elem rfl rfl Try.underlying28 Try.sizeOf3 (fun hG => ⟨(by first | omega | (have hG' := Z.gh rfl hG; simp at hG'; omega)), (by first | omega | (have hG' := Z.gh rfl hG; simp at hG'; omega))⟩)) ?_
                                refine Z.l rfl rfl (by rfl) (Z.keepS hs) (Z.Yd.load rfl Try.isAgg3 (fun _ => Z.cellR (by first | ((repeat (first | exact List.mem_cons_self | refine List.mem_cons_of_mem _ ?_ | refine List.mem_append_right _ ?_)); done) | fail) hcl)) ?_
                                refine Z.lb 1 rfl ?_
                                refine Z.lnil ?_
                                refine Z.only [0, 1, 2, 8, 10, 12, 37, 38, 44, 45, 46] rfl ?_
                                refine Z.nthen ?_
                                refine Z.seq ?_
                                refine Z.drawL [SX.Ent.row (.slice (some ⟨g36, 0, none⟩) m.l.length m.l.length) 3 1 m.l.length (ints .i64 s.out), SX.Ent.blk g 63 #[.slice (some ⟨gs, 0, none⟩) m.l.length cs, .slice (some ⟨gq, 0, none⟩) m.l.length cq, .int .i64 m.now]] (fun _ => true) mixed hs ?_
                                clear hs; intro wd12 hs
                                refine Z.tb [0, 1] (by kernel_rfl) rfl ⟨_, hs, by first | (simp; done) | exact fun e he => List.mem_append_right _ he⟩ rfl ?_
                                refine Z.t 2 rfl rfl rfl (by rfl) (by kernel_rfl) ⟨_, hs, by first | (simp; done) | exact fun e he => List.mem_append_right _ he⟩ (Z.Yd.nilc rfl rfl) ?_
                                refine Z.t 3 rfl rfl rfl (by rfl) (by kernel_rfl) ⟨_, hs, by first | (simp; done) | exact fun e he => List.mem_append_right _ he⟩ (Z.Yd.fieldA (m := 0) rfl (by kernel_rfl)) ?_
                                refine Z.t 4 rfl rfl rfl (by rfl) (by kernel_rfl) ⟨_, hs, by first | (simp; done) | exact fun e he => List.mem_append_right _ he⟩ (by first | exact Z.Yd.load rfl Try.isAgg61 (fun _ => Z.cellB (by first | ((repeat (first | exact List.mem_cons_self | refine List.mem_cons_of_mem _ ?_ | refine List.mem_append_right _ ?_)); done) | fail) rfl) | exact Z.Yd.load rfl Try.isAgg61 (fun _ => Z.cellO (by assumption) (by simp) (by assumption)) | fail "load 12.4") ?_
                                refine Z.tb [5] (by kernel_rfl) rfl ⟨_, hs, by first | (simp; done) | exact fun e he => List.mem_append_right _ he⟩ rfl ?_
                                refine Z.t 6 rfl rfl rfl (by rfl) (by kernel_rfl) ⟨_, hs, by first | (simp; done) | exact fun e he => List.mem_append_right _ he⟩ (Z.Yd.elem rfl rfl Try.underlying61 Try.sizeOf72 (fun hG => ⟨(by first | omega | (have hG' := Z.gh rfl hG; simp at hG'; omega)), (by first | omega | (have hG' := Z.gh rfl hG; simp at hG'; omega))⟩)) ?_
                                refine Z.tb [7, 8] (by kernel_rfl) rfl ⟨_, hs, by first | (simp; done) | exact fun e he => List.mem_append_right _ he⟩ rfl ?_
                                refine Z.t 9 rfl rfl rfl (by rfl) (by kernel_rfl) ⟨_, hs, by first | (simp; done) | exact fun e he => List.mem_append_right _ he⟩ (Z.Yd.elem rfl rfl Try.underlying28 Try.sizeOf3 (fun hG => ⟨(by first | omega | (have hG' := Z.gh rfl hG; simp at hG'; omega)), (by first | omega | (have hG' := Z.gh rfl hG; simp at hG'; omega))⟩)) ?_
                                refine Z.t 10 rfl rfl rfl (by rfl) (by kernel_rfl) ⟨_, hs, by first | (simp; done) | exact fun e he => List.mem_append_right _ he⟩ (Z.Yd.load rfl Try.isAgg3 (fun _ => Z.cellXi hdx (by omega) (by omega))) ?_
                                refine Z.tb [11, 12] (by kernel_rfl) rfl ⟨_, hs, by first | (simp; done) | exact fun e he => List.mem_append_right _ he⟩ rfl ?_
                                refine Z.t 13 rfl rfl rfl (by rfl) (by kernel_rfl) ⟨_, hs, by first | (simp; done) | exact fun e he => List.mem_append_right _ he⟩ (Z.Yd.elem rfl rfl Try.underlying28 Try.sizeOf3 (fun hG => ⟨(by first | omega | (have hG' := Z.gh rfl hG; simp at hG'; omega)), (by first | omega | (have hG' := Z.gh rfl hG; simp at hG'; omega))⟩)) ?_
                                refine Z.t 14 rfl rfl rfl (by rfl) (by kernel_rfl) ⟨_, hs, by first | (simp; done) | exact fun e he => List.mem_append_right _ he⟩ (Z.Yd.load rfl Try.isAgg3 (fun _ => Z.cellR (by first | ((repeat (first | exact List.mem_cons_self | refine List.mem_cons_of_mem _ ?_ | refine List.mem_append_right _ ?_)); done) | fail) (Z.ints_at (by omega) (by omega)))) ?_
                                refine Z.t 15 rfl rfl rfl (by rfl) (by kernel_rfl) ⟨_, hs, by first | (simp; done) | exact fun e he => List.mem_append_right _ he⟩ (Z.Yd.sub rfl rfl (fun hG => Z.wi64 (by first | omega | (have hG' := Z.gh rfl hG; simp at hG'; omega)))) ?_
                                refine Z.tb [16] (by kernel_rfl) rfl ⟨_, hs, by first | (simp; done) | exact fun e he => List.mem_append_right _ he⟩ rfl ?_
                                replace hs : SX.St w M _ ([SX.Ent.row _ _ _ _ _] ++ [SX.Ent.row _ _ _ _ _, SX.Ent.blk g _ _, SX.Ent.row _ _ _ _ _]) := hs.sel [2, 0, 1, 3] (by decide)
                                refine Z.tn 17 rfl rfl (by kernel_rfl) rfl trivial ?_
                                refine Z.ZO.call rfl rfl (by rfl) rfl rfl hrf (by first | rfl | simp) (bk_round r gs i cs m dem s _ hs.lend hm hso hok.2.2 (by omega) hil) ?_
                                rintro v12_17 w12_17 ⟨rfl, hz⟩
                                replace hs := hs.regain hz
                                simp only [List.cons_append, List.nil_append] at hs
                                refine Z.tk (Dn := fun _ => true) (i := 17) (fun _ => ⟨_, hs, by first | (simp; done) | exact fun e he => List.mem_append_right _ he⟩) ?_
                                refine Z.tb [18] (by kernel_rfl) rfl ⟨_, hs, by first | (simp; done) | exact fun e he => List.mem_append_right _ he⟩ rfl ?_
                                refine Z.td (by rfl) (by kernel_rfl) ?_
                                refine Z.only [0, 1, 2, 8, 10, 12, 13, 37, 38, 44, 45, 46] rfl ?_
                                refine Z.nthen ?_
                                refine Z.seq ?_
                                refine Z.region ?_
                                refine Z.lb 2 rfl ?_
                                refine Z.l rfl rfl (by rfl) (Z.keepS hs) (Z.Yd.elem rfl rfl Try.underlying28 Try.sizeOf3 (fun hG => ⟨(by first | omega | (have hG' := Z.gh rfl hG; simp at hG'; omega)), (by first | omega | (have hG' := Z.gh rfl hG; simp at hG'; omega))⟩)) ?_
                                refine Z.l rfl rfl (by rfl) (Z.keepS hs) (Z.Yd.load rfl Try.isAgg3 (fun _ => Z.cellR (by first | ((repeat (first | exact List.mem_cons_self | refine List.mem_cons_of_mem _ ?_ | refine List.mem_append_right _ ?_)); done) | fail) (Z.ints_at (by omega) (by omega)))) ?_
                                refine Z.lb 1 rfl ?_
                                refine Z.l rfl rfl (by rfl) (Z.keepS hs) (Z.Yd.add rfl rfl (fun hG => Z.wi64 (by first | omega | (have hG' := Z.gh rfl hG; simp at hG'; omega)))) ?_
                                refine Z.l rfl rfl (by rfl) (Z.keepS hs) (Z.Yd.elem rfl rfl Try.underlying28 Try.sizeOf3 (fun hG => ⟨(by first | omega | (have hG' := Z.gh rfl hG; simp at hG'; omega)), (by first | omega | (have hG' := Z.gh rfl hG; simp at hG'; omega))⟩)) ?_
                                refine Z.le rfl trivial ?_
                                first | refine Z.ZO.store rfl rfl hs Try.sizeOf3 rfl rfl rfl (by first | exact SX.at0 | exact SX.at1 | exact SX.at2 | exact SX.at3 | exact SX.at4 | exact SX.at5 | exact Z.at6 | exact Z.at7 | exact Z.at8 | exact Z.at9 | exact Z.at10 | exact Z.at11 | exact Z.at12) (by first | (simp; done) | (simp; omega)) ?_ | refine Z.ZO.storeR rfl rfl hs Try.sizeOf3 rfl rfl rfl (by first | exact SX.at0 | exact SX.at1 | exact SX.at2 | exact SX.at3 | exact SX.at4 | exact SX.at5 | exact Z.at6 | exact Z.at7 | exact Z.at8 | exact Z.at9 | exact Z.at10 | exact Z.at11 | exact Z.at12) (by first | omega | (simp [ints_length]; done) | (simp [ints_length]; omega)) ?_
                                clear hs; intro ws hs
                                simp only [Nat.zero_add, Nat.add_zero, Nat.reduceAdd, Int.reduceToNat, Nat.reduceMul, List.set_cons_zero, List.set_cons_succ, List.setIfInBounds_toArray] at hs
                                refine Z.lnil ?_
                                refine Z.only [0, 1, 2, 8, 10, 13, 37, 38, 44, 45, 46] rfl ?_
                                refine Z.nthen ?_
                                refine Z.region ?_
                                rw [Int.toNat_natCast, Nat.mul_one] at hs
                                have eo : (ints .i64 s.out).set i (.int .i64 (elt s.out (i : Int) + amt r dem s i)) = ints .i64 (dst r dem s i).out := by simp only [ints, dst, List.map_set]
                                rw [eo] at hs
                                refine Z.l rfl rfl (by rfl) (Z.keepS hs) (Z.Yd.pure rfl) ?_
                                refine Z.lb 1 rfl ?_
                                refine Z.l rfl rfl (by rfl) (Z.keepS hs) (Z.Yd.sub rfl rfl (fun hG => Z.wi64 (by first | omega | (have hG' := Z.gh rfl hG; simp at hG'; omega)))) ?_
                                refine Z.lb 1 rfl ?_
                                refine Z.lnil ?_
                                refine Z.only [0, 1, 2, 8, 10, 37, 38, 44, 45, 46] rfl ?_
                                refine Z.nblock ?_
                                refine Z.nthen ?_
                                refine Z.region ?_
                                refine Z.l rfl rfl (by rfl) (Z.keepS hs) (Z.Yd.add rfl rfl (fun hG => Z.wi64 (by first | omega | (have hG' := Z.gh rfl hG; simp at hG'; omega)))) ?_
                                refine Z.lb 1 rfl ?_
                                refine Z.lnil ?_
                                refine Z.only [0, 1, 2, 8, 10, 37, 38, 44, 45, 46] rfl ?_
                                refine Z.nthen ?_
                                refine Z.again (k + 1) (by refine ⟨?_, ?_, ?_, ?_, ?_, ?_, ?_, ?_, ?_, ?_, trivial⟩ <;> first | rfl | (rw [hst]; rfl)) ⟨by omega, by rw [hst]; exact hs.sel [1, 2, 0, 3] (by decide)⟩ (by omega)
                                )
                          · first
                              | (exfalso; simp at hc10 <;> omega)
                              | (
                                (try simp at hc10)
                                refine Z.exit ?_
                                refine Z.xthen ?_
                                refine Z.xthen ?_
                                refine Z.xblock ?_
                                refine Z.nblock ?_
                                refine Z.nthen ?_
                                refine Z.region ?_
                                refine Z.l rfl rfl (by rfl) (Z.keepS hs) (Z.Yd.add rfl rfl (fun hG => Z.wi64 (by first | omega | (have hG' := Z.gh rfl hG; simp at hG'; omega)))) ?_
                                refine Z.lb 1 rfl ?_
                                refine Z.lnil ?_
                                refine Z.only [0, 1, 2, 8, 37, 38] rfl ?_
                                refine Z.nthen ?_
                                have hkk : (ordL m.l).take k = ordL m.l := List.take_of_length_le (by rw [ordL_len hm.set]; omega)
                                refine Z.again (r + 1) (by refine ⟨?_, ?_, ?_, ?_, ?_, ?_, trivial⟩ <;> first | rfl | (rw [hkk]; rfl)) ⟨by omega, ?_⟩ (by omega)
                                rw [hkk] at hs
                                exact hs
                                )
                          )
                    · first
                        | (exfalso; simp at hc7 <;> omega)
                        | (
                          (try simp at hc7)
                          refine Z.exit ?_
                          refine Z.xthen ?_
                          refine Z.xthen ?_
                          refine Z.xblock ?_
                          refine Z.nthen ?_
                          refine Z.seq ?_
                          refine Z.region ?_
                          obtain rfl : r = 2 := by omega
                          have hol2 := (rounds_ok hm hok 2).ol
                          refine Z.l rfl rfl (by rfl) (Z.keepS hs) (Z.Yd.pure rfl) ?_
                          refine Z.lb 2 rfl ?_
                          refine Z.lnil ?_
                          refine Z.only [6, 7] rfl ?_
                          refine Z.nthen ?_
                          refine Z.ret ?_
                          -- ret#5
                          refine Z.out2 (by exact ⟨rfl, rfl, trivial⟩) ?_
                          first
                          | exact ⟨_, rfl, .slice none 0 0, by rw [eD], by rw [eD]; exact hs.nil 3 1⟩
                          | exact ⟨_, rfl, _, by rw [eD], by rw [eD]; dsimp only; rw [hol2]; exact hs⟩
                          )
                    )
              )
        · first
            | (exfalso; simp at hsp29 <;> omega)
            | (
              refine Z.yes (s := 29) (b := false) rfl hsp29 rfl ?_
              (try simp at hsp29)
              refine Z.lb 1 rfl ?_
              refine Z.yes (s := 29) (b := false) rfl rfl rfl ?_
              refine Z.le rfl (by exact ⟨rfl, trivial⟩) ?_
              refine Z.ZO.call rfl rfl (by rfl) rfl rfl Try.call38 rfl (bk_everyI A nd cd dem 39 #[] (fun x ↦ decide (0 ≤ x ∧ x ≤ 16777216)) _ (hd.st hs) hdl (by omega) Try.call39 (fun x W hW ↦ bk_div1 x W)) ?_
              rintro v3_15 w3_15 ⟨rfl, hy⟩
              replace hs := hs.call hy
              clear hy
              try simp only [List.cons_append, List.nil_append, List.append_nil] at hs
              refine Z.lb 1 rfl ?_
              refine Z.yes (s := 29) (b := false) rfl rfl rfl ?_
              refine Z.l rfl rfl (by rfl) (Z.keepS hs) (Z.Yd.pickF rfl rfl) ?_
              refine Z.lnil ?_
              refine Z.only [0, 1, 2, 33] rfl ?_
              refine Z.nthen ?_
              refine Z.cond rfl (fun hc3 => ?_) (fun hc3 => ?_)
              · first
                  | (exfalso; simp at hc3 <;> omega)
                  | (
                    (try simp at hc3)
                    have hno : ¬ okD m size dem := by
                      rintro ⟨h1, h2, h3⟩
                      first
                      | omega
                      | (obtain ⟨x, hx1, hx2⟩ := hc3; have := h3 x hx1; omega)
                    have eD : divV m size dem = (m, [], 2) := if_neg hno
                    refine Z.seq ?_
                    refine Z.region ?_
                    refine Z.lb 2 rfl ?_
                    refine Z.lnil ?_
                    refine Z.only [6, 7] rfl ?_
                    refine Z.nthen ?_
                    refine Z.ret ?_
                    repeat (first | refine Z.rthen ?_ | refine Z.rblock ?_ | refine Z.rscope ?_)
                    -- ret#6
                    refine Z.out2 (by exact ⟨rfl, rfl, trivial⟩) ?_
                    first
                    | exact ⟨_, rfl, .slice none 0 0, by rw [eD], by rw [eD]; exact hs.nil 3 1⟩
                    | exact ⟨_, rfl, _, by rw [eD], by rw [eD]; dsimp only; rw [hol2]; exact hs⟩
                    )
              · first
                  | (exfalso; simp at hc3 <;> omega)
                  | (
                    (try simp at hc3)
                    have hok : okD m size dem := ⟨by omega, by omega, fun x hx => by have := hc3 x hx; omega⟩
                    have eD : divV m size dem = ({ m with b := (rounds m size dem 2).b }, (rounds m size dem 2).out, 0) := if_pos hok
                    have hnd : nd = m.l.length := by omega
                    obtain ⟨bd, od, rfl, hdx⟩ := hd.some (by rw [ints_length]; omega)
                    refine Z.skip ?_
                    refine Z.nthen ?_
                    refine Z.seq ?_
                    refine Z.region ?_
                    refine Z.lb 1 rfl ?_
                    refine Z.l rfl rfl (by rfl) (Z.keepS hs) (Z.Yd.lenS rfl Try.underlying28) ?_
                    refine Z.le rfl trivial ?_
                    refine Z.ZO.make1 (i0 := Try.t3) (bytes := 8) rfl rfl (by rfl) hs Try.underlying28 (by kernel_rfl) rfl rfl rfl rfl rfl rfl (by omega) (by unfold maxLen; omega) ?_
                    clear hs; intro g36 w36 hs
                    refine Z.lb 1 rfl ?_
                    refine Z.lnil ?_
                    refine Z.only [0, 1, 2, 8] rfl ?_
                    refine Z.nthen ?_
                    refine Z.seq ?_
                    refine Z.seq ?_
                    refine Z.region ?_
                    have ez : List.replicate nd (Value.int .i64 0) = ints .i64 (List.replicate m.l.length 0) := by subst hnd; simp [ints]
                    rw [ez] at hs
                    subst hnd
                    replace hs : SX.St w M _ [SX.Ent.row (.slice (some ⟨g36, 0, none⟩) m.l.length m.l.length) 3 1 m.l.length (ints .i64 (dv0 m size).out), SX.Ent.blk g _ _, SX.Ent.row _ _ _ _ _, SX.Ent.row _ _ _ _ _] := hs
                    refine Z.l rfl rfl (by rfl) (Z.keepS hs) (Z.Yd.buildL [(0, 1), (1, 1)] [.nilFunc, .nilFunc] rfl rfl (by intro w; kernel_rfl)) ?_
                    refine Z.lb 1 rfl ?_
                    refine Z.lnil ?_
                    refine Z.only [0, 1, 2, 8, 37, 38] rfl ?_
                    refine Z.nthen ?_
                    refine Z.block ?_
                    refine Z.loopk (ι := Nat) [0, 2, 8, 37] rfl (fun x => [(1, [], .int .i64 (rounds m size dem x).sz), (38, [], .int .i64 (x : Int))]) (fun x wr => x ≤ 2 ∧ SX.St w M wr [SX.Ent.row (.slice (some ⟨g36, 0, none⟩) m.l.length m.l.length) 3 1 m.l.length (ints .i64 (rounds m size dem x).out), SX.Ent.blk g 63 #[.slice (some ⟨gs, 0, none⟩) m.l.length cs, .slice (some ⟨gq, 0, none⟩) m.l.length cq, .int .i64 m.now], SX.Ent.row (.slice (some ⟨gs, 0, none⟩) m.l.length cs) 72 6 m.l.length (({ m with b := (rounds m size dem x).b } : BkV).chs.flatMap chC), SX.Ent.row (.slice (some ⟨gq, 0, none⟩) m.l.length cq) 3 1 m.l.length (ints .i64 (natI (ordL m.l)))]) (fun x => 2 - x) 0 (by refine ⟨?_, ?_, trivial⟩ <;> (first | rfl | (refine Z.lookv rfl ?_; simp; done) | (refine Z.lookv rfl ?_; simp; omega))) ⟨by omega, hs⟩ ?_
                    clear hs
                    rintro r w7 ⟨hr, hs⟩
                    refine Z.only [0, 1, 2, 8, 37, 38] rfl ?_
                    refine Z.seq ?_
                    refine Z.region ?_
                    refine Z.lb 1 rfl ?_
                    refine Z.lnil ?_
                    refine Z.only [0, 1, 2, 8, 37, 38, 39] rfl ?_
                    refine Z.nthen ?_
                    refine Z.seq ?_
                    refine Z.cond rfl (fun hc7 => ?_) (fun hc7 => ?_)
                    · first
                        | (exfalso; simp at hc7 <;> omega)
                        | (
                          (try simp at hc7)
                          have hr2 : r < 2 := by omega
                          have hrf := rfn_call r
                          have hidx : (#[Value.func (.func 40) #[] #[], Value.func (.func 41) #[] #[]] : Array Value)[r]? = some (.func (.func (rfn r)) #[] #[]) := by
                            have : r = 0 ∨ r = 1 := by omega
                            rcases this with rfl | rfl <;> rfl
                          refine Z.skip ?_
                          refine Z.nthen ?_
                          refine Z.seq ?_
                          refine Z.block ?_
                          refine Z.seq ?_
                          refine Z.region ?_
                          refine Z.l rfl rfl (by rfl) (Z.keepS hs) (Z.Yd.idx1 rfl rfl Try.underlying82 Try.sizeOf81 Try.isAgg81 (fun _ => ⟨by omega, by omega, by rw [Int.toNat_natCast]; exact hidx⟩)) ?_
                          refine Z.lb 1 rfl ?_
                          refine Z.lnil ?_
                          refine Z.only [0, 1, 2, 8, 10, 37, 38] rfl ?_
                          refine Z.nthen ?_
                          refine Z.seq ?_
                          refine Z.region ?_
                          refine Z.lb 1 rfl ?_
                          refine Z.l rfl rfl (by rfl) (Z.keepS hs) (Z.Yd.nilc rfl rfl) ?_
                          refine Z.l rfl rfl (by rfl) (Z.keepS hs) (Z.Yd.fieldA (m := 1) rfl (by kernel_rfl)) ?_
                          refine Z.l rfl rfl (by rfl) (Z.keepS hs) (by first | exact Z.Yd.load rfl Try.isAgg28 (fun _ => Z.cellB (by first | ((repeat (first | exact List.mem_cons_self | refine List.mem_cons_of_mem _ ?_ | refine List.mem_append_right _ ?_)); done) | fail) rfl) | exact Z.Yd.load rfl Try.isAgg28 (fun _ => Z.cellO (by assumption) (by simp) (by assumption)) | fail "load 9.3") ?_
                          refine Z.l rfl rfl (by rfl) (Z.keepS hs) (Z.Yd.lenS rfl Try.underlying28) ?_
                          refine Z.lb 1 rfl ?_
                          refine Z.lnil ?_
                          refine Z.only [0, 1, 2, 8, 10, 37, 38, 44, 45, 46] rfl ?_
                          refine Z.nthen ?_
                          refine Z.block ?_
                          refine Z.loopk (ι := Nat) [0, 2, 8, 10, 37, 38, 44, 45] rfl (fun x => [(1, [], .int .i64 (rnd r dem (rounds m size dem r) ((ordL m.l).take x)).sz), (46, [], .int .i64 (x : Int))]) (fun x wr => x ≤ m.l.length ∧ SX.St w M wr [SX.Ent.row (.slice (some ⟨g36, 0, none⟩) m.l.length m.l.length) 3 1 m.l.length (ints .i64 (rnd r dem (rounds m size dem r) ((ordL m.l).take x)).out), SX.Ent.blk g 63 #[.slice (some ⟨gs, 0, none⟩) m.l.length cs, .slice (some ⟨gq, 0, none⟩) m.l.length cq, .int .i64 m.now], SX.Ent.row (.slice (some ⟨gs, 0, none⟩) m.l.length cs) 72 6 m.l.length (({ m with b := (rnd r dem (rounds m size dem r) ((ordL m.l).take x)).b } : BkV).chs.flatMap chC), SX.Ent.row (.slice (some ⟨gq, 0, none⟩) m.l.length cq) 3 1 m.l.length (ints .i64 (natI (ordL m.l)))]) (fun x => m.l.length - x) 0 (by refine ⟨?_, ?_, trivial⟩ <;> (first | rfl | (refine Z.lookv rfl ?_; simp; done) | (refine Z.lookv rfl ?_; simp; omega))) ⟨Nat.zero_le _, hs⟩ ?_
                          clear hs
                          rintro k w10 ⟨hk, hs⟩
                          refine Z.only [0, 1, 2, 8, 10, 37, 38, 44, 45, 46] rfl ?_
                          refine Z.seq ?_
                          refine Z.region ?_
                          refine Z.lb 1 rfl ?_
                          refine Z.lnil ?_
                          refine Z.only [0, 1, 2, 8, 10, 37, 38, 44, 45, 46, 47] rfl ?_
                          refine Z.nthen ?_
                          refine Z.seq ?_
                          refine Z.cond rfl (fun hc10 => ?_) (fun hc10 => ?_)
                          · first
                              | (exfalso; simp at hc10 <;> omega)
                              | (
                                (try simp at hc10)
                                have hkl : k < (ordL m.l).length := by rw [ordL_len hm.set]; omega
                                have hnl : (natI (ordL m.l)).length = m.l.length := by simp [natI, ordL_len hm.set]
                                have hst := rnd_take (r := r) (dem := dem) (s := rounds m size dem r) hkl
                                have hso : (rnd r dem (rounds m size dem r) ((ordL m.l).take k)).ok m dem := (rounds_ok hm hok r).fold r fun i hi => ord_lt hm i (List.mem_of_mem_take hi)
                                generalize hsd : rnd r dem (rounds m size dem r) ((ordL m.l).take k) = s at hs hst hso ⊢
                                have hel : elt (natI (ordL m.l)) (k : Int) = ((ordL m.l)[k] : Int) := natI_elt hkl
                                have hil : (ordL m.l)[k] < m.l.length := ord_lt hm _ (List.getElem_mem _)
                                obtain ⟨i, hid⟩ : ∃ i, i = (ordL m.l)[k] := ⟨_, rfl⟩
                                rw [← hid] at hel hil hst
                                have h1 := hso.og i hil
                                have h5 := hok.2.2.elt (i := i) (by omega)
                                have h6 := hso.sz
                                have hol := hso.ol
                                obtain ⟨a1, a2, a3, -⟩ := amt_bd hso r hil
                                have hcl : (ints .i64 (natI (ordL m.l)))[0 + (k : Int).toNat * 1]? = some (.int .i64 (i : Int)) := by rw [← hel]; exact Z.ints_at (by omega) (by omega)
                                refine Z.skip ?_
                                refine Z.nthen ?_
                                refine Z.seq ?_
                                refine Z.block ?_
                                refine Z.seq ?_
                                refine Z.region ?_
                                refine Z.l rfl rfl (by rfl) (Z.keepS hs) (Z.Yd.elem rfl rfl Try.underlying28 Try.sizeOf3 (fun hG => ⟨(by first | omega | (have hG' := Z.gh rfl hG; simp at hG'; omega)), (by first | omega | (have hG' := Z.gh rfl hG; simp at hG'; omega))⟩)) ?_
                                refine Z.l rfl rfl (by rfl) (Z.keepS hs) (Z.Yd.load rfl Try.isAgg3 (fun _ => Z.cellR (by first | ((repeat (first | exact List.mem_cons_self | refine List.mem_cons_of_mem _ ?_ | refine List.mem_append_right _ ?_)); done) | fail) hcl)) ?_
                                refine Z.lb 1 rfl ?_
                                refine Z.lnil ?_
                                refine Z.only [0, 1, 2, 8, 10, 12, 37, 38, 44, 45, 46] rfl ?_
                                refine Z.nthen ?_
                                refine Z.seq ?_
                                refine Z.drawL [SX.Ent.row (.slice (some ⟨g36, 0, none⟩) m.l.length m.l.length) 3 1 m.l.length (ints .i64 s.out), SX.Ent.blk g 63 #[.slice (some ⟨gs, 0, none⟩) m.l.length cs, .slice (some ⟨gq, 0, none⟩) m.l.length cq, .int .i64 m.now]] (fun _ => true) mixed hs ?_
                                clear hs; intro wd12 hs
                                refine Z.tb [0, 1] (by kernel_rfl) rfl ⟨_, hs, by first | (simp; done) | exact fun e he => List.mem_append_right _ he⟩ rfl ?_
                                refine Z.t 2 rfl rfl rfl (by rfl) (by kernel_rfl) ⟨_, hs, by first | (simp; done) | exact fun e he => List.mem_append_right _ he⟩ (Z.Yd.nilc rfl rfl) ?_
                                refine Z.t 3 rfl rfl rfl (by rfl) (by kernel_rfl) ⟨_, hs, by first | (simp; done) | exact fun e he => List.mem_append_right _ he⟩ (Z.Yd.fieldA (m := 0) rfl (by kernel_rfl)) ?_
                                refine Z.t 4 rfl rfl rfl (by rfl) (by kernel_rfl) ⟨_, hs, by first | (simp; done) | exact fun e he => List.mem_append_right _ he⟩ (by first | exact Z.Yd.load rfl Try.isAgg61 (fun _ => Z.cellB (by first | ((repeat (first | exact List.mem_cons_self | refine List.mem_cons_of_mem _ ?_ | refine List.mem_append_right _ ?_)); done) | fail) rfl) | exact Z.Yd.load rfl Try.isAgg61 (fun _ => Z.cellO (by assumption) (by simp) (by assumption)) | fail "load 12.4") ?_
                                refine Z.tb [5] (by kernel_rfl) rfl ⟨_, hs, by first | (simp; done) | exact fun e he => List.mem_append_right _ he⟩ rfl ?_
                                refine Z.t 6 rfl rfl rfl (by rfl) (by kernel_rfl) ⟨_, hs, by first | (simp; done) | exact fun e he => List.mem_append_right _ he⟩ (Z.Yd.elem rfl rfl Try.underlying61 Try.sizeOf72 (fun hG => ⟨(by first | omega | (have hG' := Z.gh rfl hG; simp at hG'; omega)), (by first | omega | (have hG' := Z.gh rfl hG; simp at hG'; omega))⟩)) ?_
                                refine Z.tb [7, 8] (by kernel_rfl) rfl ⟨_, hs, by first | (simp; done) | exact fun e he => List.mem_append_right _ he⟩ rfl ?_
                                refine Z.t 9 rfl rfl rfl (by rfl) (by kernel_rfl) ⟨_, hs, by first | (simp; done) | exact fun e he => List.mem_append_right _ he⟩ (Z.Yd.elem rfl rfl Try.underlying28 Try.sizeOf3 (fun hG => ⟨(by first | omega | (have hG' := Z.gh rfl hG; simp at hG'; omega)), (by first | omega | (have hG' := Z.gh rfl hG; simp at hG'; omega))⟩)) ?_
                                refine Z.t 10 rfl rfl rfl (by rfl) (by kernel_rfl) ⟨_, hs, by first | (simp; done) | exact fun e he => List.mem_append_right _ he⟩ (Z.Yd.load rfl Try.isAgg3 (fun _ => Z.cellXi hdx (by omega) (by omega))) ?_
                                refine Z.tb [11, 12] (by kernel_rfl) rfl ⟨_, hs, by first | (simp; done) | exact fun e he => List.mem_append_right _ he⟩ rfl ?_
                                refine Z.t 13 rfl rfl rfl (by rfl) (by kernel_rfl) ⟨_, hs, by first | (simp; done) | exact fun e he => List.mem_append_right _ he⟩ (Z.Yd.elem rfl rfl Try.underlying28 Try.sizeOf3 (fun hG => ⟨(by first | omega | (have hG' := Z.gh rfl hG; simp at hG'; omega)), (by first | omega | (have hG' := Z.gh rfl hG; simp at hG'; omega))⟩)) ?_
                                refine Z.t 14 rfl rfl rfl (by rfl) (by kernel_rfl) ⟨_, hs, by first | (simp; done) | exact fun e he => List.mem_append_right _ he⟩ (Z.Yd.load rfl Try.isAgg3 (fun _ => Z.cellR (by first | ((repeat (first | exact List.mem_cons_self | refine List.mem_cons_of_mem _ ?_ | refine List.mem_append_right _ ?_)); done) | fail) (Z.ints_at (by omega) (by omega)))) ?_
                                refine Z.t 15 rfl rfl rfl (by rfl) (by kernel_rfl) ⟨_, hs, by first | (simp; done) | exact fun e he => List.mem_append_right _ he⟩ (Z.Yd.sub rfl rfl (fun hG => Z.wi64 (by first | omega | (have hG' := Z.gh rfl hG; simp at hG'; omega)))) ?_
                                refine Z.tb [16] (by kernel_rfl) rfl ⟨_, hs, by first | (simp; done) | exact fun e he => List.mem_append_right _ he⟩ rfl ?_
                                replace hs : SX.St w M _ ([SX.Ent.row _ _ _ _ _] ++ [SX.Ent.row _ _ _ _ _, SX.Ent.blk g _ _, SX.Ent.row _ _ _ _ _]) := hs.sel [2, 0, 1, 3] (by decide)
                                refine Z.tn 17 rfl rfl (by kernel_rfl) rfl trivial ?_
                                refine Z.ZO.call rfl rfl (by rfl) rfl rfl hrf (by first | rfl | simp) (bk_round r gs i cs m dem s _ hs.lend hm hso hok.2.2 (by omega) hil) ?_
                                rintro v12_17 w12_17 ⟨rfl, hz⟩
                                replace hs := hs.regain hz
                                simp only [List.cons_append, List.nil_append] at hs
                                refine Z.tk (Dn := fun _ => true) (i := 17) (fun _ => ⟨_, hs, by first | (simp; done) | exact fun e he => List.mem_append_right _ he⟩) ?_
                                refine Z.tb [18] (by kernel_rfl) rfl ⟨_, hs, by first | (simp; done) | exact fun e he => List.mem_append_right _ he⟩ rfl ?_
                                refine Z.td (by rfl) (by kernel_rfl) ?_
                                refine Z.only [0, 1, 2, 8, 10, 12, 13, 37, 38, 44, 45, 46] rfl ?_
                                refine Z.nthen ?_
                                refine Z.seq ?_
                                refine Z.region ?_
                                refine Z.lb 2 rfl ?_
                                refine Z.l rfl rfl (by rfl) (Z.keepS hs) (Z.Yd.elem rfl rfl Try.underlying28 Try.sizeOf3 (fun hG => ⟨(by first | omega | (have hG' := Z.gh rfl hG; simp at hG'; omega)), (by first | omega | (have hG' := Z.gh rfl hG; simp at hG'; omega))⟩)) ?_
                                refine Z.l rfl rfl (by rfl) (Z.keepS hs) (Z.Yd.load rfl Try.isAgg3 (fun _ => Z.cellR (by first | ((repeat (first | exact List.mem_cons_self | refine List.mem_cons_of_mem _ ?_ | refine List.mem_append_right _ ?_)); done) | fail) (Z.ints_at (by omega) (by omega)))) ?_
                                refine Z.lb 1 rfl ?_
                                refine Z.l rfl rfl (by rfl) (Z.keepS hs) (Z.Yd.add rfl rfl (fun hG => Z.wi64 (by first | omega | (have hG' := Z.gh rfl hG; simp at hG'; omega)))) ?_
                                refine Z.l rfl rfl (by rfl) (Z.keepS hs) (Z.Yd.elem rfl rfl Try.underlying28 Try.sizeOf3 (fun hG => ⟨(by first | omega | (have hG' := Z.gh rfl hG; simp at hG'; omega)), (by first | omega | (have hG' := Z.gh rfl hG; simp at hG'; omega))⟩)) ?_
                                refine Z.le rfl trivial ?_
                                first | refine Z.ZO.store rfl rfl hs Try.sizeOf3 rfl rfl rfl (by first | exact SX.at0 | exact SX.at1 | exact SX.at2 | exact SX.at3 | exact SX.at4 | exact SX.at5 | exact Z.at6 | exact Z.at7 | exact Z.at8 | exact Z.at9 | exact Z.at10 | exact Z.at11 | exact Z.at12) (by first | (simp; done) | (simp; omega)) ?_ | refine Z.ZO.storeR rfl rfl hs Try.sizeOf3 rfl rfl rfl (by first | exact SX.at0 | exact SX.at1 | exact SX.at2 | exact SX.at3 | exact SX.at4 | exact SX.at5 | exact Z.at6 | exact Z.at7 | exact Z.at8 | exact Z.at9 | exact Z.at10 | exact Z.at11 | exact Z.at12) (by first | omega | (simp [ints_length]; done) | (simp [ints_length]; omega)) ?_
                                clear hs; intro ws hs
                                simp only [Nat.zero_add, Nat.add_zero, Nat.reduceAdd, Int.reduceToNat, Nat.reduceMul, List.set_cons_zero, List.set_cons_succ, List.setIfInBounds_toArray] at hs
                                refine Z.lnil ?_
                                refine Z.only [0, 1, 2, 8, 10, 13, 37, 38, 44, 45, 46] rfl ?_
                                refine Z.nthen ?_
                                refine Z.region ?_
                                rw [Int.toNat_natCast, Nat.mul_one] at hs
                                have eo : (ints .i64 s.out).set i (.int .i64 (elt s.out (i : Int) + amt r dem s i)) = ints .i64 (dst r dem s i).out := by simp only [ints, dst, List.map_set]
                                rw [eo] at hs
                                refine Z.l rfl rfl (by rfl) (Z.keepS hs) (Z.Yd.pure rfl) ?_
                                refine Z.lb 1 rfl ?_
                                refine Z.l rfl rfl (by rfl) (Z.keepS hs) (Z.Yd.sub rfl rfl (fun hG => Z.wi64 (by first | omega | (have hG' := Z.gh rfl hG; simp at hG'; omega)))) ?_
                                refine Z.lb 1 rfl ?_
                                refine Z.lnil ?_
                                refine Z.only [0, 1, 2, 8, 10, 37, 38, 44, 45, 46] rfl ?_
                                refine Z.nblock ?_
                                refine Z.nthen ?_
                                refine Z.region ?_
                                refine Z.l rfl rfl (by rfl) (Z.keepS hs) (Z.Yd.add rfl rfl (fun hG => Z.wi64 (by first | omega | (have hG' := Z.gh rfl hG; simp at hG'; omega)))) ?_
                                refine Z.lb 1 rfl ?_
                                refine Z.lnil ?_
                                refine Z.only [0, 1, 2, 8, 10, 37, 38, 44, 45, 46] rfl ?_
                                refine Z.nthen ?_
                                refine Z.again (k + 1) (by refine ⟨?_, ?_, ?_, ?_, ?_, ?_, ?_, ?_, ?_, ?_, trivial⟩ <;> first | rfl | (rw [hst]; rfl)) ⟨by omega, by rw [hst]; exact hs.sel [1, 2, 0, 3] (by decide)⟩ (by omega)
                                )
                          · first
                              | (exfalso; simp at hc10 <;> omega)
                              | (
                                (try simp at hc10)
                                refine Z.exit ?_
                                refine Z.xthen ?_
                                refine Z.xthen ?_
                                refine Z.xblock ?_
                                refine Z.nblock ?_
                                refine Z.nthen ?_
                                refine Z.region ?_
                                refine Z.l rfl rfl (by rfl) (Z.keepS hs) (Z.Yd.add rfl rfl (fun hG => Z.wi64 (by first | omega | (have hG' := Z.gh rfl hG; simp at hG'; omega)))) ?_
                                refine Z.lb 1 rfl ?_
                                refine Z.lnil ?_
                                refine Z.only [0, 1, 2, 8, 37, 38] rfl ?_
                                refine Z.nthen ?_
                                have hkk : (ordL m.l).take k = ordL m.l := List.take_of_length_le (by rw [ordL_len hm.set]; omega)
                                refine Z.again (r + 1) (by refine ⟨?_, ?_, ?_, ?_, ?_, ?_, trivial⟩ <;> first | rfl | (rw [hkk]; rfl)) ⟨by omega, ?_⟩ (by omega)
                                rw [hkk] at hs
                                exact hs
                                )
                          )
                    · first
                        | (exfalso; simp at hc7 <;> omega)
                        | (
                          (try simp at hc7)
                          refine Z.exit ?_
                          refine Z.xthen ?_
                          refine Z.xthen ?_
                          refine Z.xblock ?_
                          refine Z.nthen ?_
                          refine Z.seq ?_
                          refine Z.region ?_
                          obtain rfl : r = 2 := by omega
                          have hol2 := (rounds_ok hm hok 2).ol
                          refine Z.l rfl rfl (by rfl) (Z.keepS hs) (Z.Yd.pure rfl) ?_
                          refine Z.lb 2 rfl ?_
                          refine Z.lnil ?_
                          refine Z.only [6, 7] rfl ?_
                          refine Z.nthen ?_
                          refine Z.ret ?_
                          -- ret#7
                          refine Z.out2 (by exact ⟨rfl, rfl, trivial⟩) ?_
                          first
                          | exact ⟨_, rfl, .slice none 0 0, by rw [eD], by rw [eD]; exact hs.nil 3 1⟩
                          | exact ⟨_, rfl, _, by rw [eD], by rw [eD]; dsimp only; rw [hol2]; exact hs⟩
                          )
                    )
              )
        )
end Go.Proofs.Ythdhobnkclddhaa
