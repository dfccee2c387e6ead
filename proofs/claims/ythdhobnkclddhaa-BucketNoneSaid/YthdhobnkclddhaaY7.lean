/- Part 7 of the proofs that lead to the statement. -/
import Derived.Test.YthdhobnkclddhaaY6
import Derived.Test.YthdhobnkclddhaaRows
import Derived.WalkKit
import Derived.ProofKit
import Derived.OpenShut
import Derived.ShutString
import Derived.ChangeOld
import Derived.Below
/- Buckets: the law's own functions, and the examples of the chapter. -/
namespace Go.Proofs.Ythdhobnkclddhaa
open Go.RowKit
set_option linter.unusedSimpArgs false
set_option linter.unusedVariables false
--newlaws

theorem bk_num (e : Int) (w : World) : Calls Try.prog 15 #[.int .i64 e] w (SX.Ret fun v w' => v = .int .i64 e ∧ SX.St w [] w' []) := by
  have hs := SX.St.start w
  refine Z.enter Try.func15 rfl Try.ntmps15 rfl rfl ?_
  refine Z.seq ?_
  refine Z.region ?_
  refine Z.lb 1 rfl ?_
  refine Z.lnil ?_
  refine Z.only [0] rfl ?_
  refine Z.nthen ?_
  refine Z.seq ?_
  refine Z.region ?_
  refine Z.lb 2 rfl ?_
  refine Z.lnil ?_
  refine Z.only [2] rfl ?_
  refine Z.nthen ?_
  refine Z.ret ?_
  -- ret#0
  refine Z.out1 (by exact ⟨rfl, trivial⟩) ?_
  first | exact ⟨_, rfl, rfl, hs⟩ | exact ⟨_, rfl, rfl, hs.sub (List.nil_sublist _)⟩
theorem bk_lev (g : Nat) (m : BkV) (id n : Int) (has : Bool) (w : World) (hr : BkR w g m) (hm : m.ok) : Calls Try.prog 24 #[.pointer (some ⟨g, 0, none⟩), .int .i64 id, .int .i64 n, .bool has] w (SX.Ret fun v w' => v = .bool (decide (lvV m id = (n, has))) ∧ SX.St w [] w' []) := by
  have hs := SX.St.start w
  refine Z.enter Try.func24 rfl Try.ntmps24 rfl rfl ?_
  refine Z.seq ?_
  refine Z.region ?_
  refine Z.lb 1 rfl ?_
  refine Z.lnil ?_
  refine Z.only [0, 1, 2, 3] rfl ?_
  refine Z.nthen ?_
  refine Z.seq ?_
  refine Z.region ?_
  refine Z.lb 2 rfl ?_
  refine Z.le rfl trivial ?_
  refine Z.ZO.call rfl rfl (by rfl) rfl rfl Try.call17 rfl (bk_level g m id _ hr hm) ?_
  rintro v1_2 w1_2 ⟨rfl, hy⟩
  replace hs := hs.call hy
  clear hy
  try simp only [List.cons_append, List.nil_append, List.append_nil] at hs
  refine Z.lb 5 rfl ?_
  refine Z.lnil ?_
  refine Z.only [2, 3, 9, 10] rfl ?_
  refine Z.nthen ?_
  refine Z.seq ?_
  refine Z.region ?_
  refine Z.lb 6 rfl ?_
  refine Z.l rfl rfl (by rfl) (Z.keepS hs) (Z.Yd.bin rfl rfl (by intro _ w; go_simp; try rfl)) ?_
  refine Z.lb 2 rfl ?_
  refine Z.lnil ?_
  refine Z.only [8] rfl ?_
  refine Z.nthen ?_
  refine Z.ret ?_
  -- ret#0
  refine Z.out1 (by exact ⟨rfl, trivial⟩) ?_
  refine ⟨_, rfl, ?_, hs⟩
  congr 1
  rw [Bool.eq_iff_iff]
  simp [Prod.ext_iff]
theorem bk_sameI (A B : Option Addr) (n c k d : Nat) (xs ys : List Int) (w : World) (hA : Sl w A (ints .i64 xs)) (hB : Sl w B (ints .i64 ys)) (hl : xs.length = n) (hk : ys.length = k) (hn : n ≤ 1000) :
    Calls Try.prog 26 #[.slice A n c, .slice B k d] w (SX.Ret fun v w' => v = .bool (decide (xs = ys)) ∧ SX.St w [] w' []) := by
  have hs := SX.St.start w
  refine Z.enter Try.func26 rfl Try.ntmps26 rfl rfl ?_
  refine Z.seq ?_
  refine Z.region ?_
  refine Z.lb 1 rfl ?_
  refine Z.lnil ?_
  refine Z.only [0, 1] rfl ?_
  refine Z.nthen ?_
  refine Z.seq ?_
  refine Z.seq ?_
  refine Z.region ?_
  refine Z.lb 1 rfl ?_
  refine Z.l rfl rfl (by rfl) (Z.keepS hs) (Z.Yd.lenS rfl Try.underlying28) ?_
  refine Z.lb 1 rfl ?_
  refine Z.l rfl rfl (by rfl) (Z.keepS hs) (Z.Yd.lenS rfl Try.underlying28) ?_
  refine Z.lb 1 rfl ?_
  refine Z.lnil ?_
  refine Z.only [0, 1, 10] rfl ?_
  refine Z.nthen ?_
  refine Z.cond rfl (fun hc1 => ?_) (fun hc1 => ?_)
  · first
      | (exfalso; simp at hc1 <;> omega)
      | (
        (try simp at hc1)
        have hne : ¬ xs = ys := fun h => by subst h; omega
        refine Z.seq ?_
        refine Z.region ?_
        refine Z.lb 1 rfl ?_
        refine Z.lnil ?_
        refine Z.only [4] rfl ?_
        refine Z.nthen ?_
        refine Z.ret ?_
        repeat (first | refine Z.rthen ?_ | refine Z.rblock ?_ | refine Z.rscope ?_)
        -- ret#0
        refine Z.out1 (by exact ⟨rfl, trivial⟩) ?_
        first
        | exact ⟨_, rfl, by rw [decide_eq_false hne], hs⟩
        | (rw [List.take_of_length_le (by omega), List.take_of_length_le (by omega)] at ht
           exact ⟨_, rfl, by rw [decide_eq_true ht], hs⟩)
        )
  · first
      | (exfalso; simp at hc1 <;> omega)
      | (
        (try simp at hc1)
        have hnk : n = k := by omega
        refine Z.skip ?_
        refine Z.nthen ?_
        refine Z.seq ?_
        refine Z.seq ?_
        refine Z.region ?_
        refine Z.lb 1 rfl ?_
        refine Z.lnil ?_
        refine Z.only [0, 1, 5] rfl ?_
        refine Z.nthen ?_
        refine Z.block ?_
        refine Z.loopk (ι := Nat) [0, 1] rfl (fun i => [(5, [], .int .i64 (i : Int))]) (fun i wr => (i ≤ n ∧ xs.take i = ys.take i) ∧ SX.St w [] wr []) (fun i => n - i) 0 (by refine ⟨?_, trivial⟩ <;> (first | rfl | (refine Z.lookv rfl ?_; simp; done) | (refine Z.lookv rfl ?_; simp; omega))) ⟨⟨by omega, rfl⟩, hs⟩ ?_
        clear hs
        rintro i w4 ⟨⟨hi, ht⟩, hs⟩
        refine Z.only [0, 1, 5] rfl ?_
        refine Z.seq ?_
        refine Z.seq ?_
        refine Z.region ?_
        refine Z.lb 2 rfl ?_
        refine Z.l rfl rfl (by rfl) (Z.keepS hs) (Z.Yd.lenS rfl Try.underlying28) ?_
        refine Z.lb 1 rfl ?_
        refine Z.lnil ?_
        refine Z.only [0, 1, 5, 14] rfl ?_
        refine Z.nthen ?_
        refine Z.cond rfl (fun hc4 => ?_) (fun hc4 => ?_)
        · first
            | (exfalso; simp at hc4 <;> omega)
            | (
              (try simp at hc4)
              have hxi : xs[i]? = some (elt xs (i : Int)) := by rw [elt_get (by omega)]; exact List.getElem?_eq_getElem (by omega)
              have hyi : ys[i]? = some (elt ys (i : Int)) := by rw [elt_get (by omega)]; exact List.getElem?_eq_getElem (by omega)
              obtain ⟨b, off, rfl, hb1, hx2⟩ := Z.Sl.some hA (by rw [ints_length]; omega)
              obtain ⟨b', off', rfl, hb2, hy2⟩ := Z.Sl.some hB (by rw [ints_length]; omega)
              refine Z.skip ?_
              refine Z.nthen ?_
              refine Z.seq ?_
              refine Z.block ?_
              refine Z.seq ?_
              refine Z.drawK (fun _ => true) mixed hs ?_
              clear hs; intro wd6 hs
              refine Z.tb [0, 1] (by kernel_rfl) rfl ⟨_, hs, by first | (simp; done) | exact fun e he => List.mem_append_right _ he⟩ rfl ?_
              refine Z.t 2 rfl rfl rfl (by rfl) (by kernel_rfl) ⟨_, hs, by first | (simp; done) | exact fun e he => List.mem_append_right _ he⟩ (Z.Yd.elem rfl rfl Try.underlying28 Try.sizeOf3 (fun hG => ⟨(by first | omega | (have hG' := Z.gh rfl hG; simp at hG'; omega)), (by first | omega | (have hG' := Z.gh rfl hG; simp at hG'; omega))⟩)) ?_
              refine Z.t 3 rfl rfl rfl (by rfl) (by kernel_rfl) ⟨_, hs, by first | (simp; done) | exact fun e he => List.mem_append_right _ he⟩ (Z.Yd.load rfl Try.isAgg3 (fun _ => Z.cellS hx2 rfl (by omega) (by omega))) ?_
              refine Z.tb [4, 5] (by kernel_rfl) rfl ⟨_, hs, by first | (simp; done) | exact fun e he => List.mem_append_right _ he⟩ rfl ?_
              refine Z.t 6 rfl rfl rfl (by rfl) (by kernel_rfl) ⟨_, hs, by first | (simp; done) | exact fun e he => List.mem_append_right _ he⟩ (Z.Yd.elem rfl rfl Try.underlying28 Try.sizeOf3 (fun hG => ⟨(by first | omega | (have hG' := Z.gh rfl hG; simp at hG'; omega)), (by first | omega | (have hG' := Z.gh rfl hG; simp at hG'; omega))⟩)) ?_
              refine Z.t 7 rfl rfl rfl (by rfl) (by kernel_rfl) ⟨_, hs, by first | (simp; done) | exact fun e he => List.mem_append_right _ he⟩ (Z.Yd.load rfl Try.isAgg3 (fun _ => Z.cellS hy2 rfl (by omega) (by omega))) ?_
              refine Z.tb [8] (by kernel_rfl) rfl ⟨_, hs, by first | (simp; done) | exact fun e he => List.mem_append_right _ he⟩ rfl ?_
              refine Z.td (by rfl) (by kernel_rfl) ?_
              refine Z.only [0, 1, 5, 25] rfl ?_
              refine Z.nthen ?_
              refine Z.cond rfl (fun hc6 => ?_) (fun hc6 => ?_)
              · first
                  | (exfalso; simp at hc6 <;> omega)
                  | (
                    (try simp at hc6)
                    have hne : ¬ xs = ys := fun h => by
                      rw [h] at hc6
                      simp at hc6
                    refine Z.seq ?_
                    refine Z.region ?_
                    refine Z.lb 1 rfl ?_
                    refine Z.lnil ?_
                    refine Z.only [4] rfl ?_
                    refine Z.nthen ?_
                    refine Z.ret ?_
                    repeat (first | refine Z.rthen ?_ | refine Z.rblock ?_ | refine Z.rscope ?_)
                    -- ret#1
                    refine Z.out1 (by exact ⟨rfl, trivial⟩) ?_
                    first
                    | exact ⟨_, rfl, by rw [decide_eq_false hne], hs⟩
                    | (rw [List.take_of_length_le (by omega), List.take_of_length_le (by omega)] at ht
                       exact ⟨_, rfl, by rw [decide_eq_true ht], hs⟩)
                    )
              · first
                  | (exfalso; simp at hc6 <;> omega)
                  | (
                    (try simp at hc6)
                    refine Z.skip ?_
                    refine Z.nblock ?_
                    refine Z.nthen ?_
                    refine Z.region ?_
                    refine Z.lb 1 rfl ?_
                    refine Z.l rfl rfl (by rfl) (Z.keepS hs) (Z.Yd.add rfl rfl (fun hG => Z.wi64 (by first | omega | (have hG' := Z.gh rfl hG; simp at hG'; omega)))) ?_
                    refine Z.lb 1 rfl ?_
                    refine Z.lnil ?_
                    refine Z.only [0, 1, 5] rfl ?_
                    refine Z.nthen ?_
                    refine Z.again (i + 1) (by refine ⟨?_, ?_, ?_, trivial⟩ <;> (first | rfl | (refine Z.lookv rfl ?_; simp; done) | (refine Z.lookv rfl ?_; simp; omega))) ⟨⟨by omega, ?_⟩, hs⟩ (by omega)
                    rw [List.take_add_one, List.take_add_one, hxi, hyi, ht]
                    simp_all
                    )
              )
        · first
            | (exfalso; simp at hc4 <;> omega)
            | (
              (try simp at hc4)
              refine Z.exit ?_
              refine Z.xthen ?_
              refine Z.xthen ?_
              refine Z.xblock ?_
              refine Z.nthen ?_
              refine Z.seq ?_
              refine Z.region ?_
              refine Z.lb 1 rfl ?_
              refine Z.lnil ?_
              refine Z.only [4] rfl ?_
              refine Z.nthen ?_
              refine Z.ret ?_
              -- ret#2
              refine Z.out1 (by exact ⟨rfl, trivial⟩) ?_
              first
              | exact ⟨_, rfl, by rw [decide_eq_false hne], hs⟩
              | (rw [List.take_of_length_le (by omega), List.take_of_length_le (by omega)] at ht
                 exact ⟨_, rfl, by rw [decide_eq_true ht], hs⟩)
              )
        )
theorem bk_is (g : Nat) (A B : Option Addr) (c d : Nat) (m : BkV) (w : World) (hr : BkR w g m) (hA : Sl w A (m.l.flatMap LgV.cells)) (hB : Sl w B (ints .i64 m.b)) (hm : m.ok) :
    Calls Try.prog 21 #[.pointer (some ⟨g, 0, none⟩), .agg #[.slice A m.l.length c, .slice B m.l.length d, .int .i64 m.now]] w (SX.Ret fun v w' => v = .bool true ∧ SX.St w [] w' []) := by
  have hs := SX.St.start w
  refine Z.enter Try.func21 rfl Try.ntmps21 rfl rfl ?_
  refine Z.seq ?_
  refine Z.region ?_
  refine Z.le rfl trivial ?_
  refine Z.ZO.box rfl rfl (by rfl) rfl rfl hs ?_
  clear hs; intro g3 w3 hs
  refine Z.lb 1 rfl ?_
  refine Z.lnil ?_
  refine Z.only [0, 3] rfl ?_
  refine Z.nthen ?_
  refine Z.seq ?_
  refine Z.seq ?_
  refine Z.region ?_
  refine Z.lb 1 rfl ?_
  refine Z.lnil ?_
  refine Z.only [0, 3, 5] rfl ?_
  refine Z.nthen ?_
  refine Z.block ?_
  refine Z.loopk (ι := Nat) [0, 3] rfl (fun i => [(5, [], .int .i64 (i : Int))]) (fun i wr => i ≤ 12 ∧ SX.St w [] wr [SX.Ent.blk g3 30 #[.slice A m.l.length c, .slice B m.l.length d, .int .i64 m.now]]) (fun i => 12 - i) 0 (by refine ⟨?_, trivial⟩ <;> (first | rfl | (refine Z.lookv rfl ?_; simp; done) | (refine Z.lookv rfl ?_; simp; omega))) ⟨by omega, hs⟩ ?_
  clear hs
  rintro i w2 ⟨hi, hs⟩
  refine Z.only [0, 3, 5] rfl ?_
  refine Z.seq ?_
  refine Z.seq ?_
  refine Z.region ?_
  refine Z.lb 2 rfl ?_
  refine Z.lnil ?_
  refine Z.only [0, 3, 5, 9] rfl ?_
  refine Z.nthen ?_
  refine Z.cond rfl (fun hc2 => ?_) (fun hc2 => ?_)
  · first
      | (exfalso; simp at hc2 <;> omega)
      | (
        (try simp at hc2)
        have hlt : i < 12 := by omega
        refine Z.skip ?_
        refine Z.nthen ?_
        refine Z.seq ?_
        refine Z.block ?_
        refine Z.seq ?_
        refine Z.region ?_
        refine Z.l rfl rfl (by rfl) (Z.keepS hs) (by first | exact Z.Yd.loadA _ rfl Try.isAgg30 (fun _ => Z.cellsB (by first | ((repeat (first | exact List.mem_cons_self | refine List.mem_cons_of_mem _ ?_ | refine List.mem_append_right _ ?_)); done) | fail)) (by exact Try.sizeOf30) | fail "load 4.0") ?_
        refine Z.lb 1 rfl ?_
        refine Z.le rfl trivial ?_
        refine Z.ZO.call rfl rfl (by rfl) rfl rfl Try.call44 rfl (rv_level A B c d m (i : Int) _ (hA.st (hs.sub (List.nil_sublist _))) (hB.st (hs.sub (List.nil_sublist _))) hm) ?_
        rintro v4_2 w4_2 ⟨rfl, hy⟩
        replace hs := hs.call hy
        clear hy
        try simp only [List.cons_append, List.nil_append, List.append_nil] at hs
        refine Z.lb 5 rfl ?_
        refine Z.lnil ?_
        refine Z.only [0, 3, 5, 6, 7] rfl ?_
        refine Z.nthen ?_
        refine Z.seq ?_
        refine Z.region ?_
        refine Z.lb 4 rfl ?_
        refine Z.le rfl trivial ?_
        refine Z.ZO.call rfl rfl (by rfl) rfl rfl Try.call24 rfl (bk_lev g m (i : Int) _ _ _ (hr.st (hs.sub (List.nil_sublist _))) hm) ?_
        rintro v5_4 w5_4 ⟨rfl, hy⟩
        replace hs := hs.call hy
        clear hy
        try simp only [List.cons_append, List.nil_append, List.append_nil] at hs
        refine Z.lb 1 rfl ?_
        refine Z.lnil ?_
        refine Z.only [0, 3, 5, 23] rfl ?_
        refine Z.nthen ?_
        refine Z.cond rfl (fun h => absurd h (by simp)) (fun hc5 => ?_)
        refine Z.skip ?_
        refine Z.nblock ?_
        refine Z.nthen ?_
        refine Z.region ?_
        refine Z.lb 1 rfl ?_
        refine Z.l rfl rfl (by rfl) (Z.keepS hs) (Z.Yd.add rfl rfl (fun hG => Z.wi64 (by first | omega | (have hG' := Z.gh rfl hG; simp at hG'; omega)))) ?_
        refine Z.lb 1 rfl ?_
        refine Z.lnil ?_
        refine Z.only [0, 3, 5] rfl ?_
        refine Z.nthen ?_
        exact Z.again (i + 1) (by refine ⟨?_, ?_, ?_, trivial⟩ <;> (first | rfl | (refine Z.lookv rfl ?_; simp; done) | (refine Z.lookv rfl ?_; simp; omega))) ⟨by omega, hs⟩ (by omega)
        )
  · first
      | (exfalso; simp at hc2 <;> omega)
      | (
        (try simp at hc2)
        refine Z.exit ?_
        refine Z.xthen ?_
        refine Z.xthen ?_
        refine Z.xblock ?_
        refine Z.nthen ?_
        refine Z.seq ?_
        refine Z.drawK (fun _ => true) mixed hs ?_
        clear hs; intro wd7 hs
        refine Z.tb [0] (by kernel_rfl) rfl ⟨_, hs, by first | (simp; done) | exact fun e he => List.mem_append_right _ he⟩ rfl ?_
        refine Z.t 2 rfl rfl rfl (by rfl) (by kernel_rfl) ⟨_, hs, by first | (simp; done) | exact fun e he => List.mem_append_right _ he⟩ (Z.Yd.fieldA (m := 2) rfl (by kernel_rfl)) ?_
        refine Z.t 3 rfl rfl rfl (by rfl) (by kernel_rfl) ⟨_, hs, by first | (simp; done) | exact fun e he => List.mem_append_right _ he⟩ (by first | exact Z.Yd.load rfl Try.isAgg3 (fun _ => Z.cellB (by first | ((repeat (first | exact List.mem_cons_self | refine List.mem_cons_of_mem _ ?_ | refine List.mem_append_right _ ?_)); done) | fail) rfl) | exact Z.Yd.load rfl Try.isAgg3 (fun _ => Z.cellO (by assumption) (by simp) (by assumption)) | fail "load 7.3") ?_
        refine Z.tn 1 rfl rfl (by kernel_rfl) rfl trivial ?_
        refine Z.ZO.call rfl rfl (by rfl) rfl rfl Try.call25 rfl (bk_now g m _ (hr.st (hs.sub (List.nil_sublist _))) hm) ?_
        rintro v7_1 w7_1 ⟨rfl, hy⟩
        replace hs := hs.call hy
        clear hy
        try simp only [List.cons_append, List.nil_append, List.append_nil] at hs
        refine Z.tk (Dn := fun _ => true) (i := 1) (fun _ => ⟨_, hs, by first | (simp; done) | exact fun e he => List.mem_append_right _ he⟩) ?_
        refine Z.tb [4, 5] (by kernel_rfl) rfl ⟨_, hs, by first | (simp; done) | exact fun e he => List.mem_append_right _ he⟩ rfl ?_
        refine Z.td (by rfl) (by kernel_rfl) ?_
        refine Z.only [4] rfl ?_
        refine Z.nthen ?_
        refine Z.ret ?_
        -- ret#0
        refine Z.out1 (by exact ⟨rfl, trivial⟩) ?_
        exact ⟨_, rfl, by simp, hs.sub (List.nil_sublist _)⟩
        )
/-- a call of the law's, and whether it reads -/
structure AcV where
  w : Int
  n : Int
  D : Option Addr
  c : Nat
  d : List Int
def AcV.cells (x : AcV) : List Value := [.int .i64 x.w, .int .i64 x.n, .slice x.D x.d.length x.c]
theorem ac_len (x : AcV) : x.cells.length = 3 := rfl
theorem ac_one (x : AcV) : ∀ u ∈ x.cells, u.oneCell' = true := by simp [AcV.cells, Value.oneCell']
def fewL (l : List AcV) (most : Nat) : Prop := l.length ≤ most ∧ ∀ x ∈ l, x.d.length ≤ 12
instance (l : List AcV) (most : Nat) : Decidable (fewL l most) := by unfold fewL; infer_instance
theorem bk_few (A : Option Addr) (n c most : Nat) (l : List AcV) (w : World) (hx : Sl w A (l.flatMap AcV.cells)) (hl : l.length = n) (hmo : most ≤ 100) :
    Calls Try.prog 19 #[.slice A n c, .int .i64 (most : Int)] w (SX.Ret fun v w' => v = .bool (decide (fewL l most)) ∧ SX.St w [] w' []) := by
  have hs := SX.St.start w
  refine Z.enter Try.func19 rfl Try.ntmps19 rfl rfl ?_
  refine Z.seq ?_
  refine Z.region ?_
  refine Z.lb 1 rfl ?_
  refine Z.lnil ?_
  refine Z.only [0, 1] rfl ?_
  refine Z.nthen ?_
  refine Z.seq ?_
  refine Z.seq ?_
  refine Z.region ?_
  refine Z.lb 1 rfl ?_
  refine Z.l rfl rfl (by rfl) (Z.keepS hs) (Z.Yd.lenS rfl Try.underlying49) ?_
  refine Z.lb 2 rfl ?_
  refine Z.lnil ?_
  refine Z.only [0, 9] rfl ?_
  refine Z.nthen ?_
  refine Z.cond rfl (fun hc1 => ?_) (fun hc1 => ?_)
  · first
      | (exfalso; simp at hc1 <;> omega)
      | (
        (try simp at hc1)
        have hno : ¬ fewL l most := by rintro ⟨h1, -⟩; omega
        refine Z.seq ?_
        refine Z.region ?_
        refine Z.lb 1 rfl ?_
        refine Z.lnil ?_
        refine Z.only [4] rfl ?_
        refine Z.nthen ?_
        refine Z.ret ?_
        repeat (first | refine Z.rthen ?_ | refine Z.rblock ?_ | refine Z.rscope ?_)
        -- ret#0
        refine Z.out1 (by exact ⟨rfl, trivial⟩) ?_
        first
        | exact ⟨_, rfl, by rw [decide_eq_false hno], hs⟩
        | (rw [List.take_of_length_le (by omega)] at h0
           exact ⟨_, rfl, by rw [decide_eq_true (show fewL l most from ⟨by omega, h0⟩)], hs⟩)
        )
  · first
      | (exfalso; simp at hc1 <;> omega)
      | (
        (try simp at hc1)
        refine Z.skip ?_
        refine Z.nthen ?_
        refine Z.seq ?_
        refine Z.seq ?_
        refine Z.region ?_
        refine Z.lb 1 rfl ?_
        refine Z.lnil ?_
        refine Z.only [0, 5] rfl ?_
        refine Z.nthen ?_
        refine Z.block ?_
        refine Z.loopk (ι := Nat) [0] rfl (fun i => [(5, [], .int .i64 (i : Int))]) (fun i wr => (i ≤ n ∧ ∀ x ∈ l.take i, x.d.length ≤ 12) ∧ SX.St w [] wr []) (fun i => n - i) 0 (by refine ⟨?_, trivial⟩ <;> (first | rfl | (refine Z.lookv rfl ?_; simp; done) | (refine Z.lookv rfl ?_; simp; omega))) ⟨⟨by omega, by simp⟩, hs⟩ ?_
        clear hs
        rintro i w4 ⟨⟨hi, h0⟩, hs⟩
        refine Z.only [0, 5] rfl ?_
        refine Z.seq ?_
        refine Z.seq ?_
        refine Z.region ?_
        refine Z.lb 2 rfl ?_
        refine Z.l rfl rfl (by rfl) (Z.keepS hs) (Z.Yd.lenS rfl Try.underlying49) ?_
        refine Z.lb 1 rfl ?_
        refine Z.lnil ?_
        refine Z.only [0, 5, 13] rfl ?_
        refine Z.nthen ?_
        refine Z.cond rfl (fun hc4 => ?_) (fun hc4 => ?_)
        · first
            | (exfalso; simp at hc4 <;> omega)
            | (
              (try simp at hc4)
              obtain ⟨b, off, rfl, hb1, hx2⟩ := Z.Sl.some hx (by rw [flat_len ac_len]; omega)
              obtain ⟨x, hxi⟩ : ∃ x, l[i]? = some x := ⟨_, List.getElem?_eq_getElem (by omega)⟩
              refine Z.skip ?_
              refine Z.nthen ?_
              refine Z.seq ?_
              refine Z.block ?_
              refine Z.seq ?_
              refine Z.region ?_
              refine Z.lb 2 rfl ?_
              refine Z.l rfl rfl (by rfl) (Z.keepS hs) (Z.Yd.elem rfl rfl Try.underlying49 Try.sizeOf54 (fun hG => ⟨(by first | omega | (have hG' := Z.gh rfl hG; simp at hG'; omega)), (by first | omega | (have hG' := Z.gh rfl hG; simp at hG'; omega))⟩)) ?_
              refine Z.l rfl rfl (by rfl) (Z.keepS hs) (Z.Yd.fieldA (m := 2) rfl (by kernel_rfl)) ?_
              refine Z.l rfl rfl (by rfl) (Z.keepS hs) (Z.Yd.load rfl Try.isAgg28 (fun _ => Z.cellXf hx2.sx ac_len hxi rfl)) ?_
              refine Z.l rfl rfl (by rfl) (Z.keepS hs) (Z.Yd.lenS rfl Try.underlying28) ?_
              refine Z.lb 1 rfl ?_
              refine Z.lnil ?_
              refine Z.only [0, 5, 22] rfl ?_
              refine Z.nthen ?_
              refine Z.cond rfl (fun hc6 => ?_) (fun hc6 => ?_)
              · first
                  | (exfalso; simp at hc6 <;> omega)
                  | (
                    (try simp at hc6)
                    have hno : ¬ fewL l most := fun h => by
                      have := h.2 x (List.mem_of_getElem? hxi)
                      omega
                    refine Z.seq ?_
                    refine Z.region ?_
                    refine Z.lb 1 rfl ?_
                    refine Z.lnil ?_
                    refine Z.only [4] rfl ?_
                    refine Z.nthen ?_
                    refine Z.ret ?_
                    repeat (first | refine Z.rthen ?_ | refine Z.rblock ?_ | refine Z.rscope ?_)
                    -- ret#1
                    refine Z.out1 (by exact ⟨rfl, trivial⟩) ?_
                    first
                    | exact ⟨_, rfl, by rw [decide_eq_false hno], hs⟩
                    | (rw [List.take_of_length_le (by omega)] at h0
                       exact ⟨_, rfl, by rw [decide_eq_true (show fewL l most from ⟨by omega, h0⟩)], hs⟩)
                    )
              · first
                  | (exfalso; simp at hc6 <;> omega)
                  | (
                    (try simp at hc6)
                    refine Z.skip ?_
                    refine Z.nblock ?_
                    refine Z.nthen ?_
                    refine Z.region ?_
                    refine Z.lb 1 rfl ?_
                    refine Z.l rfl rfl (by rfl) (Z.keepS hs) (Z.Yd.add rfl rfl (fun hG => Z.wi64 (by first | omega | (have hG' := Z.gh rfl hG; simp at hG'; omega)))) ?_
                    refine Z.lb 1 rfl ?_
                    refine Z.lnil ?_
                    refine Z.only [0, 5] rfl ?_
                    refine Z.nthen ?_
                    refine Z.again (i + 1) (by refine ⟨?_, ?_, trivial⟩ <;> (first | rfl | (refine Z.lookv rfl ?_; simp; done) | (refine Z.lookv rfl ?_; simp; omega))) ⟨⟨by omega, fun y hy => ?_⟩, hs⟩ (by omega)
                    rw [List.take_add_one, hxi] at hy
                    rcases List.mem_append.1 hy with hy | hy
                    · exact h0 y hy
                    · obtain rfl : y = x := by simpa using hy
                      omega
                    )
              )
        · first
            | (exfalso; simp at hc4 <;> omega)
            | (
              (try simp at hc4)
              refine Z.exit ?_
              refine Z.xthen ?_
              refine Z.xthen ?_
              refine Z.xblock ?_
              refine Z.nthen ?_
              refine Z.seq ?_
              refine Z.region ?_
              refine Z.lb 1 rfl ?_
              refine Z.lnil ?_
              refine Z.only [4] rfl ?_
              refine Z.nthen ?_
              refine Z.ret ?_
              -- ret#2
              refine Z.out1 (by exact ⟨rfl, trivial⟩) ?_
              first
              | exact ⟨_, rfl, by rw [decide_eq_false hno], hs⟩
              | (rw [List.take_of_length_le (by omega)] at h0
                 exact ⟨_, rfl, by rw [decide_eq_true (show fewL l most from ⟨by omega, h0⟩)], hs⟩)
              )
        )
end Go.Proofs.Ythdhobnkclddhaa

/- Buckets: the examples of the chapter. -/
namespace Go.Proofs.Ythdhobnkclddhaa
open Go.RowKit
set_option linter.unusedSimpArgs false
set_option linter.unusedVariables false
--newlaws

def ka : LgV := ⟨1, 2, 10, 100, 0⟩
def kb : LgV := ⟨2, 1, 5, 20, 0⟩
def kw (p q t : Int) : BkV := ⟨[ka, kb], [p, q], t⟩
theorem kw_ok {p q t : Int} (h1 : 0 ≤ p ∧ p ≤ 100) (h2 : 0 ≤ q ∧ q ≤ 20) (h3 : 0 ≤ t ∧ t < 1073741824) : (kw p q t).ok := by
  refine ⟨show okSet [ka, kb] by decide, rfl, fun i hi => ?_, h3⟩
  have : i = 0 ∨ i = 1 := by
    have : i < 2 := hi
    omega
  rcases this with rfl | rfl
  · exact h1
  · exact h2
theorem ktick : tickV (kw 0 0 0) 4 = (kw 40 20 4, 0) := by decide
theorem kdiv1 : divV (kw 40 20 4) 50 [100, 100] = (kw 10 0 4, [30, 20], 0) := by decide
theorem kdiv2 : divV (kw 10 0 4) 50 [100, 100] = (kw 0 0 4, [10, 40], 0) := by decide
theorem ktick2 : tickV (kw 0 0 4) 3 = (kw 0 0 4, 2) := by decide
theorem kdiv3 : divV (kw 0 0 4) 1 [0] = (kw 0 0 4, [], 2) := by decide
theorem wk25_new (A : Option Addr) (n c : Nat) (ls : List LgV) (w : World) (hx : Sl w A (ls.flatMap LgV.cells)) (hl : ls.length = n) (hn : n ≤ 1000) (hc : n ≤ c) (h : okSet ls) :
    Calls Try.prog 9 #[.slice A n c] w (SX.Ret fun v w' => ∃ g sv so, v = .tuple #[.pointer (some ⟨g, 0, none⟩), .int .i64 0] ∧ SX.St w [] w' (bkE g sv so (newB ls))) := by
  have := bk_new A n c ls w hx hl hn hc
  simp only [if_pos h] at this
  exact this
theorem wk25_bad (A : Option Addr) (n c : Nat) (ls : List LgV) (w : World) (hx : Sl w A (ls.flatMap LgV.cells)) (hl : ls.length = n) (hn : n ≤ 1000) (hc : n ≤ c) (h : ¬ okSet ls) :
    Calls Try.prog 9 #[.slice A n c] w (SX.Ret fun v w' => v = .tuple #[.pointer none, .int .i64 2] ∧ SX.St w [] w' []) := by
  have := bk_new A n c ls w hx hl hn hc
  simp only [if_neg h] at this
  exact this
theorem wk25_tick (g : Nat) (sv so : Value) (m : BkV) (t : Int) (r : BkV × Int) (w : World) (hs : SX.St w (SX.idsOf (bkE g sv so m)) w (bkE g sv so m)) (hm : m.ok) (he : tickV m t = r) :
    Calls Try.prog 14 #[.pointer (some ⟨g, 0, none⟩), .int .i64 t] w (SX.Ret fun v w' => v = .int .i64 r.2 ∧ SX.St w (SX.idsOf (bkE g sv so m)) w' (bkE g sv so r.1)) := by
  subst he
  exact bk_tick g sv so m t w hs hm
theorem wk25_div (g : Nat) (sv so : Value) (m : BkV) (size : Int) (A : Option Addr) (nd cd : Nat) (dem : List Int) (r : BkV × List Int × Int) (w : World) (hs : SX.St w (SX.idsOf (bkE g sv so m)) w (bkE g sv so m)) (hm : m.ok)
    (hd : Sx w (SX.idsOf (bkE g sv so m)) A (ints .i64 dem)) (hdl : dem.length = nd) (he : divV m size dem = r) :
    Calls Try.prog 18 #[.pointer (some ⟨g, 0, none⟩), .int .i64 size, .slice A nd cd] w (SX.Ret fun v w' => ∃ oa oc, v = .tuple #[.slice oa r.2.1.length oc, .int .i64 r.2.2] ∧ SX.St w (SX.idsOf (bkE g sv so m)) w' (SX.Ent.row (.slice oa r.2.1.length oc) 3 1 r.2.1.length (ints .i64 r.2.1) :: bkE g sv so r.1)) := by
  subst he
  refine (bk_divide g sv so m size A nd cd dem w hs hm hd hdl).mono ?_
  rintro e w' ⟨v, h1, ov, rfl, h3⟩
  obtain ⟨oa, oc, rfl, -, -, -⟩ := SX.row_slv h3 (j := 0) rfl
  exact ⟨_, h1, oa, oc, rfl, h3⟩
theorem wk25_lev (g : Nat) (m : BkV) (id n : Int) (has : Bool) (w : World) (hr : BkR w g m) (hm : m.ok) (he : lvV m id = (n, has)) : Calls Try.prog 24 #[.pointer (some ⟨g, 0, none⟩), .int .i64 id, .int .i64 n, .bool has] w (SX.Ret fun v w' => v = .bool true ∧ SX.St w [] w' []) := by
  have := bk_lev g m id n has w hr hm
  rw [decide_eq_true he] at this
  exact this
theorem bkE_sub {g : Nat} {sv so : Value} {m : BkV} {L : List SX.Ent} : ∀ e ∈ bkE g sv so m, e ∈ bkE g sv so m ++ L := fun e h => List.mem_append_left _ h
/-- a block of ours reads asz a slice beside what is lent -/
theorem blk_lent {w0 w : World} {M : List Nat} {L1 L2 : List SX.Ent} {g T : Nat} {cs : Array Value} (hs : SX.St w0 M w (L1 ++ L2)) (hm : SX.Ent.blk g T cs ∈ L2) : Sx w (SX.idsOf L1) (some ⟨g, 0, none⟩) cs.toList := fun hp => by
  have hb : w.heap[g]? = some (.cells cs T (0, 0)) := hs.ok _ (List.mem_append_right _ hm)
  refine ⟨g, 0, rfl, SX.lt_of_some hb, fun hin => ?_, fun i u hu => ?_⟩
  · have hn := hs.nodup
    simp only [SX.idsOf, List.flatMap_append] at hn
    exact (List.nodup_append.1 hn).2.2 g hin g (List.mem_flatMap.2 ⟨_, hm, by simp [SX.Ent.blk, SX.Ent.obj]⟩) rfl
  · rw [SX.cell_blk hb]
    simpa using hu
set_option maxHeartbeats 1000000 in
set_option maxRecDepth 100000 in
theorem works25 (w : World) : Calls Try.prog 8 #[] w (SX.Ret fun v w' => v = .bool true ∧ SX.St w [] w' []) := by
  have hs := SX.St.start w
  have o0 : (kw 0 0 0).ok := kw_ok (by omega) (by omega) (by omega)
  have o1 : (kw 40 20 4).ok := kw_ok (by omega) (by omega) (by omega)
  have o2 : (kw 10 0 4).ok := kw_ok (by omega) (by omega) (by omega)
  have o3 : (kw 0 0 4).ok := kw_ok (by omega) (by omega) (by omega)
  refine Z.enter Try.func8 rfl Try.ntmps8 rfl rfl ?_
  refine Z.seq ?_
  refine Z.region ?_
  refine Z.lb 1 rfl ?_
  refine Z.lnil ?_
  refine Z.only [] rfl ?_
  refine Z.nthen ?_
  refine Z.seq ?_
  refine Z.region ?_
  refine Z.l rfl rfl (by rfl) (Z.keepS hs) (Z.Yd.buildL [(0, 1), (1, 1), (2, 1), (3, 1), (4, 1)] [.int .i64 0, .int .i64 0, .int .i64 0, .int .i64 0, .int .i64 0] rfl rfl (by intro w; kernel_rfl)) ?_
  refine Z.l rfl rfl (by rfl) (Z.keepS hs) (Z.Yd.buildL [(0, 1), (1, 1), (2, 1), (3, 1), (4, 1)] [.int .i64 0, .int .i64 0, .int .i64 0, .int .i64 0, .int .i64 0] rfl rfl (by intro w; kernel_rfl)) ?_
  refine Z.le rfl trivial ?_
  refine Z.ZO.alloc rfl rfl (by rfl) Try.zeroValue38 rfl hs ?_
  clear hs; intro g1 w1 hs
  refine Z.le rfl trivial ?_
  refine Z.ZO.alloc rfl rfl (by rfl) Try.zeroValue38 rfl hs ?_
  clear hs; intro g2 w2 hs
  refine Z.le rfl trivial ?_
  first | refine Z.ZO.storeA rfl rfl hs rfl rfl (by kernel_rfl) (by first | (simp [Value.oneCell']; done) | (refine Z.all_one ?_; assumption)) (by first | exact SX.at0 | exact SX.at1 | exact SX.at2 | exact SX.at3 | exact SX.at4 | exact SX.at5 | exact Z.at6 | exact Z.at7 | exact Z.at8 | exact Z.at9 | exact Z.at10 | exact Z.at11 | exact Z.at12) (by rfl) ?_ | refine Z.ZO.storeP rfl rfl hs rfl rfl (by kernel_rfl) (by first | (simp [Value.oneCell']; done) | (refine Z.all_one ?_; assumption)) (by first | exact SX.at0 | exact SX.at1 | exact SX.at2 | exact SX.at3 | exact SX.at4 | exact SX.at5 | exact Z.at6 | exact Z.at7 | exact Z.at8 | exact Z.at9 | exact Z.at10 | exact Z.at11 | exact Z.at12) (by first | decide | (simp; done) | (simp; omega)) ?_ | refine Z.ZO.storePR rfl rfl hs rfl rfl (by kernel_rfl) (by first | (simp [Value.oneCell']; done) | (refine Z.all_one ?_; assumption)) (by first | exact SX.at0 | exact SX.at1 | exact SX.at2 | exact SX.at3 | exact SX.at4 | exact SX.at5 | exact Z.at6 | exact Z.at7 | exact Z.at8 | exact Z.at9 | exact Z.at10 | exact Z.at11 | exact Z.at12) (by first | decide | (simp; done) | (simp; omega)) ?_
  clear hs; intro ws hs
  simp only [Nat.zero_add, Nat.add_zero, Nat.reduceAdd, Int.reduceToNat, Nat.reduceMul, List.set_cons_zero, List.set_cons_succ, List.setIfInBounds_toArray] at hs
  try simp only [Z.putL, Nat.zero_add] at hs
  refine Z.le rfl trivial ?_
  first | refine Z.ZO.storeA rfl rfl hs rfl rfl (by kernel_rfl) (by first | (simp [Value.oneCell']; done) | (refine Z.all_one ?_; assumption)) (by first | exact SX.at0 | exact SX.at1 | exact SX.at2 | exact SX.at3 | exact SX.at4 | exact SX.at5 | exact Z.at6 | exact Z.at7 | exact Z.at8 | exact Z.at9 | exact Z.at10 | exact Z.at11 | exact Z.at12) (by rfl) ?_ | refine Z.ZO.storeP rfl rfl hs rfl rfl (by kernel_rfl) (by first | (simp [Value.oneCell']; done) | (refine Z.all_one ?_; assumption)) (by first | exact SX.at0 | exact SX.at1 | exact SX.at2 | exact SX.at3 | exact SX.at4 | exact SX.at5 | exact Z.at6 | exact Z.at7 | exact Z.at8 | exact Z.at9 | exact Z.at10 | exact Z.at11 | exact Z.at12) (by first | decide | (simp; done) | (simp; omega)) ?_ | refine Z.ZO.storePR rfl rfl hs rfl rfl (by kernel_rfl) (by first | (simp [Value.oneCell']; done) | (refine Z.all_one ?_; assumption)) (by first | exact SX.at0 | exact SX.at1 | exact SX.at2 | exact SX.at3 | exact SX.at4 | exact SX.at5 | exact Z.at6 | exact Z.at7 | exact Z.at8 | exact Z.at9 | exact Z.at10 | exact Z.at11 | exact Z.at12) (by first | decide | (simp; done) | (simp; omega)) ?_
  clear hs; intro ws hs
  simp only [Nat.zero_add, Nat.add_zero, Nat.reduceAdd, Int.reduceToNat, Nat.reduceMul, List.set_cons_zero, List.set_cons_succ, List.setIfInBounds_toArray] at hs
  try simp only [Z.putL, Nat.zero_add] at hs
  refine Z.lnil ?_
  refine Z.only [1, 2] rfl ?_
  refine Z.nthen ?_
  refine Z.seq ?_
  refine Z.region ?_
  refine Z.l rfl rfl (by rfl) (Z.keepS hs) (by first | exact Z.Yd.loadA _ rfl Try.isAgg38 (fun _ => Z.cellsB (by first | ((repeat (first | exact List.mem_cons_self | refine List.mem_cons_of_mem _ ?_ | refine List.mem_append_right _ ?_)); done) | fail)) (by exact Try.sizeOf38) | fail "load 2.0") ?_
  refine Z.l rfl rfl (by rfl) (Z.keepS hs) (by first | exact Z.Yd.loadA _ rfl Try.isAgg38 (fun _ => Z.cellsB (by first | ((repeat (first | exact List.mem_cons_self | refine List.mem_cons_of_mem _ ?_ | refine List.mem_append_right _ ?_)); done) | fail)) (by exact Try.sizeOf38) | fail "load 2.1") ?_
  refine Z.le rfl trivial ?_
  refine Z.ZO.litL (T' := 38) [(0, 5), (5, 5)] [.int .i64 0, .int .i64 0, .int .i64 0, .int .i64 0, .int .i64 0, .int .i64 0, .int .i64 0, .int .i64 0, .int .i64 0, .int .i64 0] rfl rfl (by rfl) rfl rfl (by intro W; kernel_rfl) hs ?_
  clear hs; intro g22 w22 hs
  refine Z.le rfl trivial ?_
  refine Z.ZO.call rfl rfl (by rfl) rfl rfl Try.call9 rfl (wk25_new _ _ _ [ka, kb] _ (hs.blkSl (by first | ((repeat (first | exact List.mem_cons_self | refine List.mem_cons_of_mem _ ?_ | refine List.mem_append_right _ ?_)); done) | fail)) rfl (by decide) (by decide) (by decide)) ?_
  rintro v2_3 w2_3 ⟨g, sv, so, rfl, hy⟩
  replace hs := hs.call hy
  clear hy
  try simp only [List.cons_append, List.nil_append, List.append_nil] at hs
  replace hs : SX.St w [] _ (bkE g sv so (kw 0 0 0) ++ [SX.Ent.blk g2 38 kb.cells.toArray, SX.Ent.blk g1 38 ka.cells.toArray]) := hs.sel [0, 1, 2, 4, 5] (by decide)
  refine Z.lb 5 rfl ?_
  refine Z.lnil ?_
  refine Z.only [1, 3, 4] rfl ?_
  refine Z.nthen ?_
  refine Z.seq ?_
  refine Z.region ?_
  refine Z.lb 1 rfl ?_
  refine Z.le rfl trivial ?_
  refine Z.ZO.call rfl rfl (by rfl) rfl rfl Try.call14 rfl (wk25_tick g sv so (kw 0 0 0) 4 _ _ hs.lend o0 ktick) ?_
  rintro v3_1 w3_1 ⟨rfl, hz⟩
  replace hs := hs.regain hz
  refine Z.lb 1 rfl ?_
  refine Z.lnil ?_
  refine Z.only [1, 3, 4, 5] rfl ?_
  refine Z.nthen ?_
  refine Z.seq ?_
  refine Z.seq ?_
  refine Z.region ?_
  refine Z.lb 1 rfl ?_
  refine Z.le rfl trivial ?_
  refine Z.ZO.call rfl rfl (by rfl) rfl rfl Try.call15 rfl (bk_num _ _) ?_
  rintro v4_1 w4_1 ⟨rfl, hy⟩
  replace hs := hs.call hy
  clear hy
  try simp only [List.cons_append, List.nil_append, List.append_nil] at hs
  refine Z.lb 1 rfl ?_
  refine Z.le rfl trivial ?_
  refine Z.ZO.call rfl rfl (by rfl) rfl rfl Try.call15 rfl (bk_num _ _) ?_
  rintro v4_3 w4_3 ⟨rfl, hy⟩
  replace hs := hs.call hy
  clear hy
  try simp only [List.cons_append, List.nil_append, List.append_nil] at hs
  refine Z.l rfl rfl (by rfl) (Z.keepS hs) (Z.Yd.add rfl rfl (fun hG => Z.wi64 (by first | omega | (have hG' := Z.gh rfl hG; simp at hG'; omega)))) ?_
  refine Z.lb 2 rfl ?_
  refine Z.yes (s := 34) (b := false) rfl ((by simp)) rfl ?_
  refine Z.lb 1 rfl ?_
  refine Z.yes (s := 34) (b := false) rfl rfl rfl ?_
  refine Z.le rfl (by exact ⟨rfl, trivial⟩) ?_
  refine Z.ZO.call rfl rfl (by rfl) rfl rfl Try.call24 rfl (wk25_lev g (kw 40 20 4) 1 40 true _ (hs.bkR bkE_sub) o1 (by decide)) ?_
  rintro v4_8 w4_8 ⟨rfl, hy⟩
  replace hs := hs.call hy
  clear hy
  try simp only [List.cons_append, List.nil_append, List.append_nil] at hs
  refine Z.lb 1 rfl ?_
  refine Z.yes (s := 34) (b := false) rfl rfl rfl ?_
  refine Z.l rfl rfl (by rfl) (Z.keepS hs) (Z.Yd.pickF rfl rfl) ?_
  refine Z.lb 1 rfl ?_
  refine Z.yes (s := 39) (b := false) rfl ((by simp)) rfl ?_
  refine Z.lb 1 rfl ?_
  refine Z.yes (s := 39) (b := false) rfl rfl rfl ?_
  refine Z.le rfl (by exact ⟨rfl, trivial⟩) ?_
  refine Z.ZO.call rfl rfl (by rfl) rfl rfl Try.call24 rfl (wk25_lev g (kw 40 20 4) 2 20 true _ (hs.bkR bkE_sub) o1 (by decide)) ?_
  rintro v4_13 w4_13 ⟨rfl, hy⟩
  replace hs := hs.call hy
  clear hy
  try simp only [List.cons_append, List.nil_append, List.append_nil] at hs
  refine Z.lb 1 rfl ?_
  refine Z.yes (s := 39) (b := false) rfl rfl rfl ?_
  refine Z.l rfl rfl (by rfl) (Z.keepS hs) (Z.Yd.pickF rfl rfl) ?_
  refine Z.lb 1 rfl ?_
  refine Z.yes (s := 44) (b := false) rfl ((by simp)) rfl ?_
  refine Z.lb 1 rfl ?_
  refine Z.yes (s := 44) (b := false) rfl rfl rfl ?_
  refine Z.le rfl (by exact ⟨rfl, trivial⟩) ?_
  refine Z.ZO.call rfl rfl (by rfl) rfl rfl Try.call24 rfl (wk25_lev g (kw 40 20 4) 3 0 false _ (hs.bkR bkE_sub) o1 (by decide)) ?_
  rintro v4_18 w4_18 ⟨rfl, hy⟩
  replace hs := hs.call hy
  clear hy
  try simp only [List.cons_append, List.nil_append, List.append_nil] at hs
  refine Z.lb 1 rfl ?_
  refine Z.yes (s := 44) (b := false) rfl rfl rfl ?_
  refine Z.l rfl rfl (by rfl) (Z.keepS hs) (Z.Yd.pickF rfl rfl) ?_
  refine Z.lnil ?_
  refine Z.only [1, 3, 48] rfl ?_
  refine Z.nthen ?_
  refine Z.cond rfl (fun h => absurd h (by simp)) (fun hc4 => ?_)
  refine Z.skip ?_
  refine Z.nthen ?_
  refine Z.seq ?_
  refine Z.region ?_
  refine Z.lb 1 rfl ?_
  refine Z.le rfl trivial ?_
  refine Z.ZO.litL (T' := 3) [(0, 1), (1, 1)] [.int .i64 0, .int .i64 0] rfl rfl (by rfl) rfl rfl (by intro W; kernel_rfl) hs ?_
  clear hs; intro g51 w51 hs
  replace hs : SX.St w [] _ (bkE g sv so (kw 40 20 4) ++ [SX.Ent.blk g51 _ _, SX.Ent.blk g2 38 kb.cells.toArray, SX.Ent.blk g1 38 ka.cells.toArray]) := hs.sel [1, 2, 3, 0, 4, 5] (by decide)
  refine Z.le rfl trivial ?_
  refine Z.ZO.call rfl rfl (by rfl) rfl rfl Try.call18 rfl (wk25_div g sv so (kw 40 20 4) 50 _ _ _ [100, 100] _ _ hs.lend o1 (blk_lent hs List.mem_cons_self) rfl kdiv1) ?_
  rintro v6_2 w6_2 ⟨oa, oc, rfl, hz⟩
  replace hs := hs.regain hz
  refine Z.lb 5 rfl ?_
  refine Z.lnil ?_
  refine Z.only [1, 3, 6, 7] rfl ?_
  refine Z.nthen ?_
  refine Z.seq ?_
  refine Z.seq ?_
  refine Z.region ?_
  refine Z.lb 1 rfl ?_
  refine Z.le rfl trivial ?_
  refine Z.ZO.litL (T' := 3) [(0, 1), (1, 1)] [.int .i64 0, .int .i64 0] rfl rfl (by rfl) rfl rfl (by intro W; kernel_rfl) hs ?_
  clear hs; intro g56 w56 hs
  refine Z.le rfl trivial ?_
  refine Z.ZO.call rfl rfl (by rfl) rfl rfl Try.call26 rfl (bk_sameI oa _ _ oc _ _ [30, 20] [30, 20] _ (hs.slm (T := 3) (size := 1) (k := 2) (c := oc) (m := 2) (by simp)) (hs.blkSl (by first | ((repeat (first | exact List.mem_cons_self | refine List.mem_cons_of_mem _ ?_ | refine List.mem_append_right _ ?_)); done) | fail)) rfl rfl (by decide)) ?_
  rintro v7_2 w7_2 ⟨rfl, hy⟩
  replace hs := hs.call hy
  clear hy
  try simp only [List.cons_append, List.nil_append, List.append_nil] at hs
  refine Z.lb 2 rfl ?_
  refine Z.yes (s := 59) (b := false) rfl ((by simp)) rfl ?_
  refine Z.lb 1 rfl ?_
  refine Z.yes (s := 59) (b := false) rfl rfl rfl ?_
  refine Z.le rfl (by exact ⟨rfl, trivial⟩) ?_
  refine Z.ZO.call rfl rfl (by rfl) rfl rfl Try.call15 rfl (bk_num _ _) ?_
  rintro v7_6 w7_6 ⟨rfl, hy⟩
  replace hs := hs.call hy
  clear hy
  try simp only [List.cons_append, List.nil_append, List.append_nil] at hs
  refine Z.lb 1 rfl ?_
  refine Z.yes (s := 59) (b := false) rfl rfl rfl ?_
  refine Z.l rfl rfl (by rfl) (Z.keepS hs) (Z.Yd.pickF rfl rfl) ?_
  refine Z.lb 1 rfl ?_
  refine Z.yes (s := 64) (b := false) rfl ((by simp)) rfl ?_
  refine Z.lb 1 rfl ?_
  replace hs : SX.St w [] _ (bkE g sv so (kw 10 0 4) ++ [SX.Ent.blk g2 38 kb.cells.toArray, SX.Ent.blk g1 38 ka.cells.toArray]) := hs.sel [2, 3, 4, 6, 7] (by decide)
  refine Z.yes (s := 64) (b := false) rfl rfl rfl ?_
  refine Z.le rfl (by exact ⟨rfl, trivial⟩) ?_
  refine Z.ZO.call rfl rfl (by rfl) rfl rfl Try.call24 rfl (wk25_lev g (kw 10 0 4) 1 10 true _ (hs.bkR bkE_sub) o2 (by decide)) ?_
  rintro v7_11 w7_11 ⟨rfl, hy⟩
  replace hs := hs.call hy
  clear hy
  try simp only [List.cons_append, List.nil_append, List.append_nil] at hs
  refine Z.lb 1 rfl ?_
  refine Z.yes (s := 64) (b := false) rfl rfl rfl ?_
  refine Z.l rfl rfl (by rfl) (Z.keepS hs) (Z.Yd.pickF rfl rfl) ?_
  refine Z.lb 1 rfl ?_
  refine Z.yes (s := 69) (b := false) rfl ((by simp)) rfl ?_
  refine Z.lb 1 rfl ?_
  refine Z.yes (s := 69) (b := false) rfl rfl rfl ?_
  refine Z.le rfl (by exact ⟨rfl, trivial⟩) ?_
  refine Z.ZO.call rfl rfl (by rfl) rfl rfl Try.call24 rfl (wk25_lev g (kw 10 0 4) 2 0 true _ (hs.bkR bkE_sub) o2 (by decide)) ?_
  rintro v7_16 w7_16 ⟨rfl, hy⟩
  replace hs := hs.call hy
  clear hy
  try simp only [List.cons_append, List.nil_append, List.append_nil] at hs
  refine Z.lb 1 rfl ?_
  refine Z.yes (s := 69) (b := false) rfl rfl rfl ?_
  refine Z.l rfl rfl (by rfl) (Z.keepS hs) (Z.Yd.pickF rfl rfl) ?_
  refine Z.lnil ?_
  refine Z.only [1, 3, 73] rfl ?_
  refine Z.nthen ?_
  refine Z.cond rfl (fun h => absurd h (by simp)) (fun hc7 => ?_)
  refine Z.skip ?_
  refine Z.nthen ?_
  refine Z.seq ?_
  refine Z.region ?_
  refine Z.lb 1 rfl ?_
  refine Z.le rfl trivial ?_
  refine Z.ZO.litL (T' := 3) [(0, 1), (1, 1)] [.int .i64 0, .int .i64 0] rfl rfl (by rfl) rfl rfl (by intro W; kernel_rfl) hs ?_
  clear hs; intro g76 w76 hs
  replace hs : SX.St w [] _ (bkE g sv so (kw 10 0 4) ++ (SX.Ent.blk g76 _ _ :: [SX.Ent.blk g2 38 kb.cells.toArray, SX.Ent.blk g1 38 ka.cells.toArray])) := hs.sel [1, 2, 3, 0, 4, 5] (by decide)
  refine Z.le rfl trivial ?_
  refine Z.ZO.call rfl rfl (by rfl) rfl rfl Try.call18 rfl (wk25_div g sv so (kw 10 0 4) 50 _ _ _ [100, 100] _ _ hs.lend o2 (blk_lent hs List.mem_cons_self) rfl kdiv2) ?_
  rintro v9_2 w9_2 ⟨oa2, oc2, rfl, hz⟩
  replace hs := hs.regain hz
  replace hs : SX.St w [] _ (bkE g sv so (kw 0 0 4) ++ (SX.Ent.row _ _ _ _ _ :: [SX.Ent.blk g2 38 kb.cells.toArray, SX.Ent.blk g1 38 ka.cells.toArray])) := hs.sel [1, 2, 3, 0, 5, 6] (by decide)
  refine Z.lb 5 rfl ?_
  refine Z.lnil ?_
  refine Z.only [1, 3, 8, 9] rfl ?_
  refine Z.nthen ?_
  refine Z.seq ?_
  refine Z.region ?_
  refine Z.lb 1 rfl ?_
  refine Z.le rfl trivial ?_
  refine Z.ZO.call rfl rfl (by rfl) rfl rfl Try.call14 rfl (wk25_tick g sv so (kw 0 0 4) 3 _ _ hs.lend o3 ktick2) ?_
  rintro v10_1 w10_1 ⟨rfl, hz⟩
  replace hs := hs.regain hz
  refine Z.lb 1 rfl ?_
  refine Z.lnil ?_
  refine Z.only [1, 3, 8, 9, 10] rfl ?_
  refine Z.nthen ?_
  refine Z.seq ?_
  refine Z.region ?_
  refine Z.lb 1 rfl ?_
  refine Z.le rfl trivial ?_
  refine Z.ZO.litL (T' := 3) [(0, 1)] [.int .i64 0] rfl rfl (by rfl) rfl rfl (by intro W; kernel_rfl) hs ?_
  clear hs; intro g84 w84 hs
  replace hs : SX.St w [] _ (bkE g sv so (kw 0 0 4) ++ (SX.Ent.blk g84 _ _ :: SX.Ent.row _ _ _ _ _ :: [SX.Ent.blk g2 38 kb.cells.toArray, SX.Ent.blk g1 38 ka.cells.toArray])) := hs.sel [1, 2, 3, 0, 4, 5, 6] (by decide)
  refine Z.le rfl trivial ?_
  refine Z.ZO.call rfl rfl (by rfl) rfl rfl Try.call18 rfl (wk25_div g sv so (kw 0 0 4) 1 _ _ _ [0] _ _ hs.lend o3 (blk_lent hs List.mem_cons_self) rfl kdiv3) ?_
  rintro v11_2 w11_2 ⟨oa3, oc3, rfl, hz⟩
  replace hs := hs.regain hz
  replace hs : SX.St w [] _ (SX.Ent.row (.slice oa2 2 oc2) 3 1 2 (ints .i64 [10, 40]) :: [SX.Ent.blk g2 38 kb.cells.toArray, SX.Ent.blk g1 38 ka.cells.toArray]) := hs.sel [5, 6, 7] (by decide)
  refine Z.lb 5 rfl ?_
  refine Z.lnil ?_
  refine Z.only [1, 8, 9, 10, 12] rfl ?_
  refine Z.nthen ?_
  refine Z.seq ?_
  refine Z.region ?_
  refine Z.le rfl trivial ?_
  refine Z.ZO.call rfl rfl (by rfl) rfl rfl Try.call9 rfl (wk25_bad none 0 0 [] _ sl_nil rfl (by decide) (by decide) (by decide)) ?_
  rintro v12_0 w12_0 ⟨rfl, hy⟩
  replace hs := hs.call hy
  clear hy
  try simp only [List.cons_append, List.nil_append, List.append_nil] at hs
  refine Z.lb 5 rfl ?_
  refine Z.lnil ?_
  refine Z.only [1, 8, 9, 10, 12, 14] rfl ?_
  refine Z.nthen ?_
  refine Z.seq ?_
  refine Z.region ?_
  refine Z.l rfl rfl (by rfl) (Z.keepS hs) (by first | exact Z.Yd.loadA _ rfl Try.isAgg38 (fun _ => Z.cellsB (by first | ((repeat (first | exact List.mem_cons_self | refine List.mem_cons_of_mem _ ?_ | refine List.mem_append_right _ ?_)); done) | fail)) (by exact Try.sizeOf38) | fail "load 13.0") ?_
  refine Z.l rfl rfl (by rfl) (Z.keepS hs) (by first | exact Z.Yd.loadA _ rfl Try.isAgg38 (fun _ => Z.cellsB (by first | ((repeat (first | exact List.mem_cons_self | refine List.mem_cons_of_mem _ ?_ | refine List.mem_append_right _ ?_)); done) | fail)) (by exact Try.sizeOf38) | fail "load 13.1") ?_
  refine Z.le rfl trivial ?_
  refine Z.ZO.litL (T' := 38) [(0, 5), (5, 5)] [.int .i64 0, .int .i64 0, .int .i64 0, .int .i64 0, .int .i64 0, .int .i64 0, .int .i64 0, .int .i64 0, .int .i64 0, .int .i64 0] rfl rfl (by rfl) rfl rfl (by intro W; kernel_rfl) hs ?_
  clear hs; intro g95 w95 hs
  refine Z.le rfl trivial ?_
  refine Z.ZO.call rfl rfl (by rfl) rfl rfl Try.call9 rfl (wk25_bad _ _ _ [ka, ka] _ (hs.blkSl (by first | ((repeat (first | exact List.mem_cons_self | refine List.mem_cons_of_mem _ ?_ | refine List.mem_append_right _ ?_)); done) | fail)) rfl (by decide) (by decide) (by decide)) ?_
  rintro v13_3 w13_3 ⟨rfl, hy⟩
  replace hs := hs.call hy
  clear hy
  try simp only [List.cons_append, List.nil_append, List.append_nil] at hs
  refine Z.lb 5 rfl ?_
  refine Z.lnil ?_
  refine Z.only [8, 9, 10, 12, 14, 16] rfl ?_
  refine Z.nthen ?_
  refine Z.seq ?_
  refine Z.region ?_
  refine Z.lb 1 rfl ?_
  refine Z.le rfl trivial ?_
  refine Z.ZO.litL (T' := 3) [(0, 1), (1, 1)] [.int .i64 0, .int .i64 0] rfl rfl (by rfl) rfl rfl (by intro W; kernel_rfl) hs ?_
  clear hs; intro g100 w100 hs
  refine Z.le rfl trivial ?_
  refine Z.ZO.call rfl rfl (by rfl) rfl rfl Try.call26 rfl (bk_sameI oa2 _ _ oc2 _ _ [10, 40] [10, 40] _ (hs.slm (T := 3) (size := 1) (k := 2) (c := oc2) (m := 2) (by simp)) (hs.blkSl (by first | ((repeat (first | exact List.mem_cons_self | refine List.mem_cons_of_mem _ ?_ | refine List.mem_append_right _ ?_)); done) | fail)) rfl rfl (by decide)) ?_
  rintro v14_2 w14_2 ⟨rfl, hy⟩
  replace hs := hs.call hy
  clear hy
  try simp only [List.cons_append, List.nil_append, List.append_nil] at hs
  refine Z.lb 1 rfl ?_
  refine Z.yes (s := 102) (b := true) rfl ((by simp)) rfl ?_
  refine Z.lb 1 rfl ?_
  refine Z.yes (s := 102) (b := true) rfl rfl rfl ?_
  refine Z.le rfl (by exact ⟨rfl, trivial⟩) ?_
  refine Z.ZO.call rfl rfl (by rfl) rfl rfl Try.call15 rfl (bk_num _ _) ?_
  rintro v14_5 w14_5 ⟨rfl, hy⟩
  replace hs := hs.call hy
  clear hy
  try simp only [List.cons_append, List.nil_append, List.append_nil] at hs
  refine Z.lb 1 rfl ?_
  refine Z.yes (s := 102) (b := true) rfl rfl rfl ?_
  refine Z.l rfl rfl (by rfl) (Z.keepS hs) (Z.Yd.pickT rfl rfl) ?_
  refine Z.lb 1 rfl ?_
  refine Z.yes (s := 107) (b := true) rfl ((by simp)) rfl ?_
  refine Z.lb 1 rfl ?_
  refine Z.yes (s := 107) (b := true) rfl rfl rfl ?_
  refine Z.le rfl (by exact ⟨rfl, trivial⟩) ?_
  refine Z.ZO.call rfl rfl (by rfl) rfl rfl Try.call15 rfl (bk_num _ _) ?_
  rintro v14_10 w14_10 ⟨rfl, hy⟩
  replace hs := hs.call hy
  clear hy
  try simp only [List.cons_append, List.nil_append, List.append_nil] at hs
  refine Z.lb 1 rfl ?_
  refine Z.yes (s := 107) (b := true) rfl rfl rfl ?_
  refine Z.l rfl rfl (by rfl) (Z.keepS hs) (Z.Yd.pickT rfl rfl) ?_
  refine Z.lb 1 rfl ?_
  refine Z.yes (s := 112) (b := true) rfl ((by simp)) rfl ?_
  refine Z.lb 1 rfl ?_
  refine Z.yes (s := 112) (b := true) rfl rfl rfl ?_
  refine Z.le rfl (by exact ⟨rfl, trivial⟩) ?_
  refine Z.ZO.call rfl rfl (by rfl) rfl rfl Try.call15 rfl (bk_num _ _) ?_
  rintro v14_15 w14_15 ⟨rfl, hy⟩
  replace hs := hs.call hy
  clear hy
  try simp only [List.cons_append, List.nil_append, List.append_nil] at hs
  refine Z.lb 1 rfl ?_
  refine Z.yes (s := 112) (b := true) rfl rfl rfl ?_
  refine Z.l rfl rfl (by rfl) (Z.keepS hs) (Z.Yd.pickT rfl rfl) ?_
  refine Z.lb 1 rfl ?_
  refine Z.yes (s := 117) (b := true) rfl ((by simp)) rfl ?_
  refine Z.lb 1 rfl ?_
  refine Z.yes (s := 117) (b := true) rfl rfl rfl ?_
  refine Z.le rfl (by exact ⟨rfl, trivial⟩) ?_
  refine Z.ZO.call rfl rfl (by rfl) rfl rfl Try.call15 rfl (bk_num _ _) ?_
  rintro v14_20 w14_20 ⟨rfl, hy⟩
  replace hs := hs.call hy
  clear hy
  try simp only [List.cons_append, List.nil_append, List.append_nil] at hs
  refine Z.lb 1 rfl ?_
  refine Z.yes (s := 117) (b := true) rfl rfl rfl ?_
  refine Z.l rfl rfl (by rfl) (Z.keepS hs) (Z.Yd.pickT rfl rfl) ?_
  refine Z.lb 1 rfl ?_
  refine Z.yes (s := 122) (b := true) rfl ((by simp)) rfl ?_
  refine Z.lb 1 rfl ?_
  refine Z.yes (s := 122) (b := true) rfl rfl rfl ?_
  refine Z.le rfl (by exact ⟨rfl, trivial⟩) ?_
  refine Z.ZO.call rfl rfl (by rfl) rfl rfl Try.call15 rfl (bk_num _ _) ?_
  rintro v14_25 w14_25 ⟨rfl, hy⟩
  replace hs := hs.call hy
  clear hy
  try simp only [List.cons_append, List.nil_append, List.append_nil] at hs
  refine Z.lb 1 rfl ?_
  refine Z.yes (s := 122) (b := true) rfl rfl rfl ?_
  refine Z.l rfl rfl (by rfl) (Z.keepS hs) (Z.Yd.pickT rfl rfl) ?_
  refine Z.lb 1 rfl ?_
  refine Z.lnil ?_
  refine Z.only [0] rfl ?_
  refine Z.nthen ?_
  refine Z.ret ?_
  -- ret#0
  refine Z.out1 (by exact ⟨rfl, trivial⟩) ?_
  exact ⟨_, rfl, rfl, hs.sub (List.nil_sublist _)⟩
end Go.Proofs.Ythdhobnkclddhaa

/- Buckets: one call on both sides. -/
namespace Go.Proofs.Ythdhobnkclddhaa
open Go.RowKit
set_option linter.unusedSimpArgs false
set_option linter.unusedVariables false
--newlaws

def AcV.at (x : AcV) (now : Int) : Int := if x.w < 5 then now + max 0 (min 1000 x.n) else x.n
def isD (x : AcV) : Prop := x.w = 0 ∨ x.w = 1 ∨ x.w = 2
def isT (x : AcV) : Prop := x.w = 3 ∨ x.w = 4 ∨ x.w = 5
instance (x : AcV) : Decidable (isD x) := by unfold isD; infer_instance
instance (x : AcV) : Decidable (isT x) := by unfold isT; infer_instance
def actB (m : BkV) (x : AcV) : BkV := if isD x then (divV m x.n x.d).1 else if isT x then (tickV m (x.at m.now)).1 else m
theorem divV_l (m : BkV) (size : Int) (dem : List Int) : (divV m size dem).1.l = m.l ∧ (divV m size dem).1.now = m.now := by unfold divV; split <;> exact ⟨rfl, rfl⟩
theorem tickV_l (m : BkV) (t : Int) : (tickV m t).1.l = m.l := by unfold tickV; split <;> rfl
theorem actB_l (m : BkV) (x : AcV) : (actB m x).l = m.l := by
  unfold actB
  split
  · exact (divV_l m _ _).1
  · split
    · exact tickV_l m _
    · rfl
theorem BkV.ok.act {m : BkV} (hm : m.ok) (x : AcV) : (actB m x).ok := by
  unfold actB
  split
  · exact hm.div _ _
  · split
    · exact hm.tick _
    · exact hm
theorem divV_len {m : BkV} (hm : m.ok) (size : Int) (dem : List Int) : (divV m size dem).2.1.length ≤ 10 := by
  unfold divV
  split
  · rename_i h
    have := (rounds_ok hm h 2).ol
    have := hm.pos
    simp only
    omega
  · simp
/-- what the document's object reads -/
def NewB (Bn B : Option Addr) (dn d : Nat) (m m' : BkV) (Ln : List SX.Ent) : Prop := Ln = [SX.Ent.row (.slice Bn m.l.length dn) 3 1 m.l.length (ints .i64 m'.b)] ∨ Ln = [] ∧ Bn = B ∧ dn = d ∧ m'.b = m.b
set_option maxHeartbeats 2000000 in
set_option maxRecDepth 100000 in
theorem bk_act (g : Nat) (sv so : Value) (A B : Option Addr) (c d : Nat) (m : BkV) (x : AcV) (w : World) (hs : SX.St w (SX.idsOf (bkE g sv so m)) w (bkE g sv so m)) (hm : m.ok)
    (hA : Sx w (SX.idsOf (bkE g sv so m)) A (m.l.flatMap LgV.cells)) (hB : Sx w (SX.idsOf (bkE g sv so m)) B (ints .i64 m.b)) (hx : Sx w (SX.idsOf (bkE g sv so m)) x.D (ints .i64 x.d)) (hx12 : x.d.length ≤ 1000) :
    Calls Try.prog 20 #[.pointer (some ⟨g, 0, none⟩), .agg #[.slice A m.l.length c, .slice B m.l.length d, .int .i64 m.now], .agg x.cells.toArray] w (SX.Ret fun v w' => ∃ g' sv' so' Bn dn Ln, v = .tuple #[.pointer (some ⟨g', 0, none⟩), .agg #[.slice A m.l.length c, .slice Bn m.l.length dn, .int .i64 (actB m x).now], .bool true] ∧ SX.St w (SX.idsOf (bkE g sv so m)) w' (bkE g' sv' so' (actB m x) ++ Ln) ∧ NewB Bn B dn d m (actB m x) Ln) := by
  have hmw := hm.now
  generalize hM : SX.idsOf (bkE g sv so m) = M at *
  replace hs : SX.St w M w [SX.Ent.blk g 63 #[sv, so, .int .i64 m.now], SX.Ent.row sv 72 6 m.l.length (m.chs.flatMap chC), SX.Ent.row so 3 1 m.l.length (ints .i64 (natI (ordL m.l)))] := hs
  show Calls Try.prog 20 #[_, _, .agg #[.int .i64 x.w, .int .i64 x.n, .slice x.D x.d.length x.c]] w _
  refine Z.enter Try.func20 rfl Try.ntmps20 rfl rfl ?_
  refine Z.seq ?_
  refine Z.region ?_
  refine Z.le rfl trivial ?_
  refine Z.ZO.box rfl rfl (by rfl) rfl rfl hs ?_
  clear hs; intro g4 w4 hs
  refine Z.le rfl trivial ?_
  refine Z.ZO.box rfl rfl (by rfl) rfl rfl hs ?_
  clear hs; intro g5 w5 hs
  refine Z.lb 1 rfl ?_
  refine Z.le rfl trivial ?_
  refine Z.ZO.alloc rfl rfl (by rfl) Try.zeroValue30 rfl hs ?_
  clear hs; intro g7 w7 hs
  refine Z.lb 1 rfl ?_
  refine Z.lnil ?_
  refine Z.only [0, 4, 5, 7] rfl ?_
  refine Z.nthen ?_
  refine Z.seq ?_
  refine Z.seq ?_
  refine Z.region ?_
  refine Z.l rfl rfl (by rfl) (Z.keepS hs) (Z.Yd.fieldA (m := 0) rfl (by kernel_rfl)) ?_
  refine Z.l rfl rfl (by rfl) (Z.keepS hs) (by first | exact Z.Yd.load rfl Try.isAgg3 (fun _ => Z.cellB (by first | ((repeat (first | exact List.mem_cons_self | refine List.mem_cons_of_mem _ ?_ | refine List.mem_append_right _ ?_)); done) | fail) rfl) | exact Z.Yd.load rfl Try.isAgg3 (fun _ => Z.cellO (by assumption) (by simp) (by assumption)) | fail "load 1.1") ?_
  refine Z.lnil ?_
  refine Z.only [0, 4, 5, 7, 18] rfl ?_
  refine Z.nthen ?_
  refine Z.block ?_
  refine Z.seq ?_
  refine Z.seq ?_
  refine Z.region ?_
  refine Z.lb 2 rfl ?_
  refine Z.lnil ?_
  refine Z.only [0, 4, 5, 7, 18, 19] rfl ?_
  refine Z.nthen ?_
  refine Z.cutt (ι := Unit) [0, 4, 5, 7, 18] rfl (fun _ => [(19, [], .bool (decide (isD x)))]) (fun _ wr => SX.St w M wr [SX.Ent.blk g7 30 #[.slice none 0 0, .slice none 0 0, .int .i64 0], SX.Ent.blk g5 54 #[.int .i64 x.w, .int .i64 x.n, .slice x.D x.d.length x.c], SX.Ent.blk g4 30 #[.slice A m.l.length c, .slice B m.l.length d, .int .i64 m.now], SX.Ent.blk g 63 #[sv, so, .int .i64 m.now], SX.Ent.row sv 72 6 m.l.length (m.chs.flatMap chC), SX.Ent.row so 3 1 m.l.length (ints .i64 (natI (ordL m.l)))]) ?_ ?_
  · skip
    refine Z.cond rfl (fun hc2 => ?_) (fun hc2 => ?_)
    · first
        | (exfalso; simp at hc2 <;> omega)
        | (
          (try simp at hc2)
          refine Z.skip ?_
          refine Z.nthen ?_
          exact Z.meet () (by refine ⟨?_, ?_, ?_, ?_, ?_, ?_, trivial⟩ <;> first | rfl | (refine Z.lookv rfl ?_; congr 1; rw [Bool.eq_iff_iff]; simp only [decide_eq_true_eq, beq_iff_eq]; unfold isD; omega)) hs
          )
    · first
        | (exfalso; simp at hc2 <;> omega)
        | (
          (try simp at hc2)
          refine Z.seq ?_
          refine Z.region ?_
          refine Z.lb 2 rfl ?_
          refine Z.lnil ?_
          refine Z.only [0, 4, 5, 7, 18, 19] rfl ?_
          refine Z.nthen ?_
          refine Z.cond rfl (fun hc3 => ?_) (fun hc3 => ?_)
          · first
              | (exfalso; simp at hc3 <;> omega)
              | (
                (try simp at hc3)
                refine Z.skip ?_
                refine Z.nthen ?_
                exact Z.meet () (by refine ⟨?_, ?_, ?_, ?_, ?_, ?_, trivial⟩ <;> first | rfl | (refine Z.lookv rfl ?_; congr 1; rw [Bool.eq_iff_iff]; simp only [decide_eq_true_eq, beq_iff_eq]; unfold isD; omega)) hs
                )
          · first
              | (exfalso; simp at hc3 <;> omega)
              | (
                (try simp at hc3)
                refine Z.region ?_
                refine Z.lb 2 rfl ?_
                refine Z.lnil ?_
                refine Z.only [0, 4, 5, 7, 18, 19] rfl ?_
                refine Z.nthen ?_
                exact Z.meet () (by refine ⟨?_, ?_, ?_, ?_, ?_, ?_, trivial⟩ <;> first | rfl | (refine Z.lookv rfl ?_; congr 1; rw [Bool.eq_iff_iff]; simp only [decide_eq_true_eq, beq_iff_eq]; unfold isD; omega)) hs
                )
          )
  · clear hs
    rintro _ w2 hs
    refine Z.only [0, 4, 5, 7, 18, 19] rfl ?_
    refine Z.cond rfl (fun hc4 => ?_) (fun hc4 => ?_)
    · first
        | (exfalso; simp at hc4 <;> omega)
        | (
          (try simp at hc4)
          have hw : isD x := by assumption
          have eA : actB m x = (divV m x.n x.d).1 := if_pos hw
          refine Z.seq ?_
          refine Z.region ?_
          refine Z.l rfl rfl (by rfl) (Z.keepS hs) (by first | exact Z.Yd.loadA _ rfl Try.isAgg30 (fun _ => Z.cellsB (by first | ((repeat (first | exact List.mem_cons_self | refine List.mem_cons_of_mem _ ?_ | refine List.mem_append_right _ ?_)); done) | fail)) (by exact Try.sizeOf30) | fail "load 5.0") ?_
          refine Z.l rfl rfl (by rfl) (Z.keepS hs) (Z.Yd.fieldA (m := 1) rfl (by kernel_rfl)) ?_
          refine Z.l rfl rfl (by rfl) (Z.keepS hs) (by first | exact Z.Yd.load rfl Try.isAgg3 (fun _ => Z.cellB (by first | ((repeat (first | exact List.mem_cons_self | refine List.mem_cons_of_mem _ ?_ | refine List.mem_append_right _ ?_)); done) | fail) rfl) | exact Z.Yd.load rfl Try.isAgg3 (fun _ => Z.cellO (by assumption) (by simp) (by assumption)) | fail "load 5.2") ?_
          refine Z.l rfl rfl (by rfl) (Z.keepS hs) (Z.Yd.fieldA (m := 2) rfl (by kernel_rfl)) ?_
          refine Z.l rfl rfl (by rfl) (Z.keepS hs) (by first | exact Z.Yd.load rfl Try.isAgg28 (fun _ => Z.cellB (by first | ((repeat (first | exact List.mem_cons_self | refine List.mem_cons_of_mem _ ?_ | refine List.mem_append_right _ ?_)); done) | fail) rfl) | exact Z.Yd.load rfl Try.isAgg28 (fun _ => Z.cellO (by assumption) (by simp) (by assumption)) | fail "load 5.4") ?_
          refine Z.le rfl trivial ?_
          refine Z.ZO.call rfl rfl (by rfl) rfl rfl Try.call42 rfl (rv_divide A B x.D c d x.d.length x.c m x.n x.d _ (hA.st hs) (hB.st hs) (hx.st hs) rfl hm) ?_
          rintro v5_5 w5_5 ⟨Bn, dn, ov, Ln, rfl, hy, hN⟩
          replace hs := hs.call hy
          clear hy
          try simp only [List.cons_append, List.nil_append, List.append_nil] at hs
          replace hs : SX.St w M _ ([SX.Ent.blk g7 30 #[.slice none 0 0, .slice none 0 0, .int .i64 0], SX.Ent.blk g5 54 #[.int .i64 x.w, .int .i64 x.n, .slice x.D x.d.length x.c], SX.Ent.blk g4 30 #[.slice A m.l.length c, .slice B m.l.length d, .int .i64 m.now], SX.Ent.blk g 63 #[sv, so, .int .i64 m.now], SX.Ent.row sv 72 6 m.l.length (m.chs.flatMap chC), SX.Ent.row so 3 1 m.l.length (ints .i64 (natI (ordL m.l))), SX.Ent.row ov 3 1 (divV m x.n x.d).2.1.length (ints .i64 (divV m x.n x.d).2.1)] ++ Ln) := SX.St.rot (L1 := _ :: Ln) hs
          obtain ⟨oa, oc, rfl, -, -, -⟩ := SX.row_slv (L := _ ++ Ln) hs (j := 6) rfl
          refine Z.lb 4 rfl ?_
          refine Z.le rfl trivial ?_
          refine Z.ZO.alloc rfl rfl (by rfl) Try.zeroValue30 rfl hs ?_
          clear hs; intro g9 w9 hs
          refine Z.le rfl trivial ?_
          first | refine Z.ZO.storeA rfl rfl hs rfl rfl (by kernel_rfl) (by first | (simp [Value.oneCell']; done) | (refine Z.all_one ?_; assumption)) (by first | exact SX.at0 | exact SX.at1 | exact SX.at2 | exact SX.at3 | exact SX.at4 | exact SX.at5 | exact Z.at6 | exact Z.at7 | exact Z.at8 | exact Z.at9 | exact Z.at10 | exact Z.at11 | exact Z.at12) (by rfl) ?_ | refine Z.ZO.storeP rfl rfl hs rfl rfl (by kernel_rfl) (by first | (simp [Value.oneCell']; done) | (refine Z.all_one ?_; assumption)) (by first | exact SX.at0 | exact SX.at1 | exact SX.at2 | exact SX.at3 | exact SX.at4 | exact SX.at5 | exact Z.at6 | exact Z.at7 | exact Z.at8 | exact Z.at9 | exact Z.at10 | exact Z.at11 | exact Z.at12) (by first | decide | (simp; done) | (simp; omega)) ?_ | refine Z.ZO.storePR rfl rfl hs rfl rfl (by kernel_rfl) (by first | (simp [Value.oneCell']; done) | (refine Z.all_one ?_; assumption)) (by first | exact SX.at0 | exact SX.at1 | exact SX.at2 | exact SX.at3 | exact SX.at4 | exact SX.at5 | exact Z.at6 | exact Z.at7 | exact Z.at8 | exact Z.at9 | exact Z.at10 | exact Z.at11 | exact Z.at12) (by first | decide | (simp; done) | (simp; omega)) ?_
          clear hs; intro ws hs
          simp only [Nat.zero_add, Nat.add_zero, Nat.reduceAdd, Int.reduceToNat, Nat.reduceMul, List.set_cons_zero, List.set_cons_succ, List.setIfInBounds_toArray] at hs
          try simp only [Z.putL, Nat.zero_add] at hs
          refine Z.lb 2 rfl ?_
          refine Z.lnil ?_
          refine Z.only [0, 5, 7, 9, 10, 11] rfl ?_
          refine Z.nthen ?_
          refine Z.seq ?_
          refine Z.region ?_
          refine Z.lb 1 rfl ?_
          refine Z.l rfl rfl (by rfl) (Z.keepS hs) (Z.Yd.fieldA (m := 1) rfl (by kernel_rfl)) ?_
          refine Z.l rfl rfl (by rfl) (Z.keepS hs) (by first | exact Z.Yd.load rfl Try.isAgg3 (fun _ => Z.cellB (by first | ((repeat (first | exact List.mem_cons_self | refine List.mem_cons_of_mem _ ?_ | refine List.mem_append_right _ ?_)); done) | fail) rfl) | exact Z.Yd.load rfl Try.isAgg3 (fun _ => Z.cellO (by assumption) (by simp) (by assumption)) | fail "load 6.2") ?_
          refine Z.l rfl rfl (by rfl) (Z.keepS hs) (Z.Yd.fieldA (m := 2) rfl (by kernel_rfl)) ?_
          refine Z.l rfl rfl (by rfl) (Z.keepS hs) (by first | exact Z.Yd.load rfl Try.isAgg28 (fun _ => Z.cellB (by first | ((repeat (first | exact List.mem_cons_self | refine List.mem_cons_of_mem _ ?_ | refine List.mem_append_right _ ?_)); done) | fail) rfl) | exact Z.Yd.load rfl Try.isAgg28 (fun _ => Z.cellO (by assumption) (by simp) (by assumption)) | fail "load 6.4") ?_
          replace hs : SX.St w M _ (bkE g sv so m ++ ([SX.Ent.blk g9 30 #[.slice A m.l.length c, .slice Bn m.l.length dn, .int .i64 m.now], SX.Ent.blk g7 _ _, SX.Ent.blk g5 54 #[.int .i64 x.w, .int .i64 x.n, .slice x.D x.d.length x.c], SX.Ent.row (.slice oa (divV m x.n x.d).2.1.length oc) 3 1 (divV m x.n x.d).2.1.length (ints .i64 (divV m x.n x.d).2.1)] ++ Ln)) := SX.St.selT (L1 := [_, _, _, _, _, _, _, _]) hs [4, 5, 6, 0, 1, 2, 7] (by decide)
          refine Z.le rfl trivial ?_
          refine Z.ZO.call rfl rfl (by rfl) rfl rfl Try.call18 rfl (bk_divide g sv so m x.n x.D x.d.length x.c x.d _ hs.lend hm (hx.lent hs) rfl) ?_
          rintro v6_5 w6_5 ⟨ov2, rfl, hz⟩
          replace hs := hs.regain hz
          obtain ⟨oa2, oc2, rfl, -, -, -⟩ := SX.row_slv hs (j := 0) rfl
          replace hs : SX.St w M _ ([SX.Ent.row (.slice oa2 (divV m x.n x.d).2.1.length oc2) 3 1 (divV m x.n x.d).2.1.length (ints .i64 (divV m x.n x.d).2.1), SX.Ent.blk g9 30 #[.slice A m.l.length c, .slice Bn m.l.length dn, .int .i64 m.now], SX.Ent.blk g7 30 #[.slice none 0 0, .slice none 0 0, .int .i64 0], SX.Ent.row (.slice oa (divV m x.n x.d).2.1.length oc) 3 1 (divV m x.n x.d).2.1.length (ints .i64 (divV m x.n x.d).2.1)] ++ (bkE g sv so (divV m x.n x.d).1 ++ Ln)) := SX.St.selT (L1 := [_, _, _, _, _, _, _, _]) hs [0, 4, 5, 7, 1, 2, 3] (by decide)
          refine Z.lb 5 rfl ?_
          refine Z.lnil ?_
          refine Z.only [0, 7, 9, 10, 11, 12, 13] rfl ?_
          refine Z.nthen ?_
          refine Z.seq ?_
          refine Z.drawL [SX.Ent.blk g9 30 #[.slice A m.l.length c, .slice Bn m.l.length dn, .int .i64 m.now]] (fun _ => true) mixed hs ?_
          clear hs; intro wd7 hs
          refine Z.tb [0] (by kernel_rfl) rfl ⟨_, hs, by first | (simp; done) | exact fun e he => List.mem_append_right _ he⟩ rfl ?_
          refine Z.t 1 rfl rfl rfl (by rfl) (by kernel_rfl) ⟨_, hs, by first | (simp; done) | exact fun e he => List.mem_append_right _ he⟩ (by first | exact Z.Yd.loadA _ rfl Try.isAgg30 (fun _ => Z.cellsB (by first | ((repeat (first | exact List.mem_cons_self | refine List.mem_cons_of_mem _ ?_ | refine List.mem_append_right _ ?_)); done) | fail)) (by exact Try.sizeOf30) | fail "load 7.1") ?_
          refine Z.tb [2, 3] (by kernel_rfl) rfl ⟨_, hs, by first | (simp; done) | exact fun e he => List.mem_append_right _ he⟩ rfl ?_
          refine Z.tn 4 rfl rfl (by kernel_rfl) rfl trivial ?_
          refine Z.ZO.call rfl rfl (by rfl) rfl rfl Try.call26 rfl (bk_sameI oa oa2 _ oc _ oc2 (divV m x.n x.d).2.1 (divV m x.n x.d).2.1 _ (hs.slm (A := oa) (xs := ints .i64 (divV m x.n x.d).2.1) (by first | ((repeat (first | exact List.mem_cons_self | refine List.mem_cons_of_mem _ ?_ | refine List.mem_append_right _ ?_)); done) | fail)) (hs.slm (A := oa2) (xs := ints .i64 (divV m x.n x.d).2.1) (by first | ((repeat (first | exact List.mem_cons_self | refine List.mem_cons_of_mem _ ?_ | refine List.mem_append_right _ ?_)); done) | fail)) rfl rfl (by have := divV_len hm x.n x.d; omega)) ?_
          rintro v7_4 w7_4 ⟨rfl, hy⟩
          replace hs := hs.call hy
          clear hy
          try simp only [List.cons_append, List.nil_append, List.append_nil] at hs
          refine Z.tk (Dn := fun _ => true) (i := 4) (fun _ => ⟨_, hs, by first | (simp; done) | exact fun e he => List.mem_append_right _ he⟩) ?_
          refine Z.tb [5, 6, 8] (by kernel_rfl) rfl ⟨_, hs, by first | (simp; done) | exact fun e he => List.mem_append_right _ he⟩ rfl ?_
          refine Z.yes (s := 47) (b := true) rfl (by simp) rfl ?_
          refine Z.tn 7 rfl rfl (by kernel_rfl) rfl (by exact ⟨rfl, trivial⟩) ?_
          refine Z.ZO.call rfl rfl (by rfl) rfl rfl Try.call15 rfl (bk_num _ _) ?_
          rintro v7_7 w7_7 ⟨rfl, hy⟩
          replace hs := hs.call hy
          clear hy
          try simp only [List.cons_append, List.nil_append, List.append_nil] at hs
          refine Z.tk (Dn := fun _ => true) (i := 7) (fun _ => ⟨_, hs, by first | (simp; done) | exact fun e he => List.mem_append_right _ he⟩) ?_
          refine Z.tb [9, 10, 11] (by kernel_rfl) rfl ⟨_, hs, by first | (simp; done) | exact fun e he => List.mem_append_right _ he⟩ rfl ?_
          refine Z.tn 12 rfl rfl (by kernel_rfl) rfl trivial ?_
          first | refine Z.ZO.storeA rfl rfl hs rfl rfl (by kernel_rfl) (by first | (simp [Value.oneCell']; done) | (refine Z.all_one ?_; assumption)) (by first | exact SX.at0 | exact SX.at1 | exact SX.at2 | exact SX.at3 | exact SX.at4 | exact SX.at5 | exact Z.at6 | exact Z.at7 | exact Z.at8 | exact Z.at9 | exact Z.at10 | exact Z.at11 | exact Z.at12) (by rfl) ?_ | refine Z.ZO.storeP rfl rfl hs rfl rfl (by kernel_rfl) (by first | (simp [Value.oneCell']; done) | (refine Z.all_one ?_; assumption)) (by first | exact SX.at0 | exact SX.at1 | exact SX.at2 | exact SX.at3 | exact SX.at4 | exact SX.at5 | exact Z.at6 | exact Z.at7 | exact Z.at8 | exact Z.at9 | exact Z.at10 | exact Z.at11 | exact Z.at12) (by first | decide | (simp; done) | (simp; omega)) ?_ | refine Z.ZO.storePR rfl rfl hs rfl rfl (by kernel_rfl) (by first | (simp [Value.oneCell']; done) | (refine Z.all_one ?_; assumption)) (by first | exact SX.at0 | exact SX.at1 | exact SX.at2 | exact SX.at3 | exact SX.at4 | exact SX.at5 | exact Z.at6 | exact Z.at7 | exact Z.at8 | exact Z.at9 | exact Z.at10 | exact Z.at11 | exact Z.at12) (by first | decide | (simp; done) | (simp; omega)) ?_
          clear hs; intro ws hs
          simp only [Nat.zero_add, Nat.add_zero, Nat.reduceAdd, Int.reduceToNat, Nat.reduceMul, List.set_cons_zero, List.set_cons_succ, List.setIfInBounds_toArray] at hs
          try simp only [Z.putL, Nat.zero_add] at hs
          refine Z.tk (Dn := fun _ => true) (i := 12) (fun _ => ⟨_, hs, by first | (simp; done) | exact fun e he => List.mem_append_right _ he⟩) ?_
          refine Z.tb [13] (by kernel_rfl) rfl ⟨_, hs, by first | (simp; done) | exact fun e he => List.mem_append_right _ he⟩ rfl ?_
          refine Z.td (by rfl) (by kernel_rfl) ?_
          refine Z.only [6, 7, 8] rfl ?_
          refine Z.nthen ?_
          refine Z.ret ?_
          repeat (first | refine Z.rthen ?_ | refine Z.rblock ?_ | refine Z.rscope ?_)
          -- ret#0
          refine Z.out3 (by exact ⟨rfl, ⟨_, rfl, Z.rvcA hs Try.isAgg30 (by first | ((repeat (first | exact List.mem_cons_self | refine List.mem_cons_of_mem _ ?_ | refine List.mem_append_right _ ?_)); done) | fail) (by exact Try.sizeOf30)⟩, rfl, trivial⟩) ?_
          rw [eA]
          exact ⟨_, rfl, g, sv, so, Bn, dn, Ln, by rw [(divV_l m x.n x.d).2]; simp, (show SX.St w M _ ([_, _, _, _] ++ (bkE g sv so (divV m x.n x.d).1 ++ Ln)) from hs).sub (List.sublist_append_right _ _), hN⟩
          )
    · first
        | (exfalso; simp at hc4 <;> omega)
        | (
          (try simp at hc4)
          have hw : ¬ isD x := by assumption
          refine Z.seq ?_
          refine Z.seq ?_
          refine Z.region ?_
          refine Z.lb 2 rfl ?_
          refine Z.lnil ?_
          refine Z.only [0, 4, 5, 7, 18, 53] rfl ?_
          refine Z.nthen ?_
          refine Z.cutt (ι := Unit) [0, 4, 5, 7] rfl (fun _ => [(53, [], .bool (decide (isT x)))]) (fun _ wr => SX.St w M wr [SX.Ent.blk g7 30 #[.slice none 0 0, .slice none 0 0, .int .i64 0], SX.Ent.blk g5 54 #[.int .i64 x.w, .int .i64 x.n, .slice x.D x.d.length x.c], SX.Ent.blk g4 30 #[.slice A m.l.length c, .slice B m.l.length d, .int .i64 m.now], SX.Ent.blk g 63 #[sv, so, .int .i64 m.now], SX.Ent.row sv 72 6 m.l.length (m.chs.flatMap chC), SX.Ent.row so 3 1 m.l.length (ints .i64 (natI (ordL m.l)))]) ?_ ?_
          · skip
            refine Z.cond rfl (fun hc8 => ?_) (fun hc8 => ?_)
            · first
                | (exfalso; simp at hc8 <;> omega)
                | (
                  (try simp at hc8)
                  refine Z.skip ?_
                  refine Z.nthen ?_
                  exact Z.meet () (by refine ⟨?_, ?_, ?_, ?_, ?_, trivial⟩ <;> first | rfl | (refine Z.lookv rfl ?_; congr 1; rw [Bool.eq_iff_iff]; simp only [decide_eq_true_eq, beq_iff_eq]; unfold isT; omega)) hs
                  )
            · first
                | (exfalso; simp at hc8 <;> omega)
                | (
                  (try simp at hc8)
                  refine Z.seq ?_
                  refine Z.region ?_
                  refine Z.lb 2 rfl ?_
                  refine Z.lnil ?_
                  refine Z.only [0, 4, 5, 7, 18, 53] rfl ?_
                  refine Z.nthen ?_
                  refine Z.cond rfl (fun hc9 => ?_) (fun hc9 => ?_)
                  · first
                      | (exfalso; simp at hc9 <;> omega)
                      | (
                        (try simp at hc9)
                        refine Z.skip ?_
                        refine Z.nthen ?_
                        exact Z.meet () (by refine ⟨?_, ?_, ?_, ?_, ?_, trivial⟩ <;> first | rfl | (refine Z.lookv rfl ?_; congr 1; rw [Bool.eq_iff_iff]; simp only [decide_eq_true_eq, beq_iff_eq]; unfold isT; omega)) hs
                        )
                  · first
                      | (exfalso; simp at hc9 <;> omega)
                      | (
                        (try simp at hc9)
                        refine Z.region ?_
                        refine Z.lb 2 rfl ?_
                        refine Z.lnil ?_
                        refine Z.only [0, 4, 5, 7, 53] rfl ?_
                        refine Z.nthen ?_
                        exact Z.meet () (by refine ⟨?_, ?_, ?_, ?_, ?_, trivial⟩ <;> first | rfl | (refine Z.lookv rfl ?_; congr 1; rw [Bool.eq_iff_iff]; simp only [decide_eq_true_eq, beq_iff_eq]; unfold isT; omega)) hs
                        )
                  )
          · clear hs
            rintro _ w8 hs
            refine Z.only [0, 4, 5, 7, 53] rfl ?_
            refine Z.cond rfl (fun hc10 => ?_) (fun hc10 => ?_)
            · first
                | (exfalso; simp at hc10 <;> omega)
                | (
                  (try simp at hc10)
                  have hw2 : isT x := by assumption
                  have eA : actB m x = (tickV m (x.at m.now)).1 := by unfold actB; rw [if_neg hw, if_pos hw2]
                  have nA : (actB m x).now = (tickV m (x.at m.now)).1.now := by rw [eA]
                  refine Z.seq ?_
                  refine Z.region ?_
                  refine Z.l rfl rfl (by rfl) (Z.keepS hs) (Z.Yd.fieldA (m := 1) rfl (by kernel_rfl)) ?_
                  refine Z.l rfl rfl (by rfl) (Z.keepS hs) (by first | exact Z.Yd.load rfl Try.isAgg3 (fun _ => Z.cellB (by first | ((repeat (first | exact List.mem_cons_self | refine List.mem_cons_of_mem _ ?_ | refine List.mem_append_right _ ?_)); done) | fail) rfl) | exact Z.Yd.load rfl Try.isAgg3 (fun _ => Z.cellO (by assumption) (by simp) (by assumption)) | fail "load 11.1") ?_
                  refine Z.lb 1 rfl ?_
                  refine Z.lnil ?_
                  refine Z.only [0, 4, 5, 7, 14] rfl ?_
                  refine Z.nthen ?_
                  refine Z.seq ?_
                  refine Z.seq ?_
                  refine Z.region ?_
                  refine Z.l rfl rfl (by rfl) (Z.keepS hs) (Z.Yd.fieldA (m := 0) rfl (by kernel_rfl)) ?_
                  refine Z.l rfl rfl (by rfl) (Z.keepS hs) (by first | exact Z.Yd.load rfl Try.isAgg3 (fun _ => Z.cellB (by first | ((repeat (first | exact List.mem_cons_self | refine List.mem_cons_of_mem _ ?_ | refine List.mem_append_right _ ?_)); done) | fail) rfl) | exact Z.Yd.load rfl Try.isAgg3 (fun _ => Z.cellO (by assumption) (by simp) (by assumption)) | fail "load 12.1") ?_
                  refine Z.lb 1 rfl ?_
                  refine Z.lnil ?_
                  refine Z.only [0, 4, 5, 7, 14, 61] rfl ?_
                  refine Z.nthen ?_
                  refine Z.cutt (ι := Unit) [0, 4, 7] rfl (fun _ => [(14, [], .int .i64 (x.at m.now))]) (fun _ wr => SX.St w M wr [SX.Ent.blk g7 30 #[.slice none 0 0, .slice none 0 0, .int .i64 0], SX.Ent.blk g5 54 #[.int .i64 x.w, .int .i64 x.n, .slice x.D x.d.length x.c], SX.Ent.blk g4 30 #[.slice A m.l.length c, .slice B m.l.length d, .int .i64 m.now], SX.Ent.blk g 63 #[sv, so, .int .i64 m.now], SX.Ent.row sv 72 6 m.l.length (m.chs.flatMap chC), SX.Ent.row so 3 1 m.l.length (ints .i64 (natI (ordL m.l)))]) ?_ ?_
                  · skip
                    refine Z.cond rfl (fun hc12 => ?_) (fun hc12 => ?_)
                    · first
                        | (exfalso; simp at hc12 <;> omega)
                        | (
                          (try simp at hc12)
                          refine Z.region ?_
                          refine Z.l rfl rfl (by rfl) (Z.keepS hs) (Z.Yd.fieldA (m := 2) rfl (by kernel_rfl)) ?_
                          refine Z.l rfl rfl (by rfl) (Z.keepS hs) (by first | exact Z.Yd.load rfl Try.isAgg3 (fun _ => Z.cellB (by first | ((repeat (first | exact List.mem_cons_self | refine List.mem_cons_of_mem _ ?_ | refine List.mem_append_right _ ?_)); done) | fail) rfl) | exact Z.Yd.load rfl Try.isAgg3 (fun _ => Z.cellO (by assumption) (by simp) (by assumption)) | fail "load 13.1") ?_
                          refine Z.l rfl rfl (by rfl) (Z.keepS hs) (Z.Yd.fieldA (m := 1) rfl (by kernel_rfl)) ?_
                          refine Z.l rfl rfl (by rfl) (Z.keepS hs) (by first | exact Z.Yd.load rfl Try.isAgg3 (fun _ => Z.cellB (by first | ((repeat (first | exact List.mem_cons_self | refine List.mem_cons_of_mem _ ?_ | refine List.mem_append_right _ ?_)); done) | fail) rfl) | exact Z.Yd.load rfl Try.isAgg3 (fun _ => Z.cellO (by assumption) (by simp) (by assumption)) | fail "load 13.3") ?_
                          refine Z.l rfl rfl (by rfl) (Z.keepS hs) (Z.Yd.min rfl rfl) ?_
                          refine Z.l rfl rfl (by rfl) (Z.keepS hs) (Z.Yd.max rfl rfl) ?_
                          refine Z.l rfl rfl (by rfl) (Z.keepS hs) (Z.Yd.add rfl rfl (fun hG => Z.wi64 (by first | omega | (have hG' := Z.gh rfl hG; simp at hG'; omega)))) ?_
                          refine Z.lb 1 rfl ?_
                          refine Z.lnil ?_
                          refine Z.only [0, 4, 7, 14] rfl ?_
                          refine Z.nthen ?_
                          exact Z.meet () (by refine ⟨?_, ?_, ?_, ?_, trivial⟩ <;> first | rfl | (refine Z.lookv rfl ?_; congr 1; unfold AcV.at; first | (rw [if_pos (by assumption)]) | (rw [if_neg (by omega)]))) hs
                          )
                    · first
                        | (exfalso; simp at hc12 <;> omega)
                        | (
                          (try simp at hc12)
                          refine Z.skip ?_
                          refine Z.nthen ?_
                          exact Z.meet () (by refine ⟨?_, ?_, ?_, ?_, trivial⟩ <;> first | rfl | (refine Z.lookv rfl ?_; congr 1; unfold AcV.at; first | (rw [if_pos (by assumption)]) | (rw [if_neg (by omega)]))) hs
                          )
                  · clear hs
                    rintro _ w12 hs
                    refine Z.only [0, 4, 7, 14] rfl ?_
                    refine Z.seq ?_
                    refine Z.region ?_
                    refine Z.l rfl rfl (by rfl) (Z.keepS hs) (by first | exact Z.Yd.loadA _ rfl Try.isAgg30 (fun _ => Z.cellsB (by first | ((repeat (first | exact List.mem_cons_self | refine List.mem_cons_of_mem _ ?_ | refine List.mem_append_right _ ?_)); done) | fail)) (by exact Try.sizeOf30) | fail "load 14.0") ?_
                    refine Z.lb 1 rfl ?_
                    refine Z.le rfl trivial ?_
                    refine Z.ZO.call rfl rfl (by rfl) rfl rfl Try.call43 rfl (rv_tick A B c d m (x.at m.now) _ (hA.st hs) (hB.st hs) hm) ?_
                    rintro v14_2 w14_2 ⟨Bn, dn, Ln, rfl, hy, hN⟩
                    replace hs := hs.call hy
                    clear hy
                    try simp only [List.cons_append, List.nil_append, List.append_nil] at hs
                    replace hs : SX.St w M _ ([SX.Ent.blk g7 30 #[.slice none 0 0, .slice none 0 0, .int .i64 0], SX.Ent.blk g5 54 #[.int .i64 x.w, .int .i64 x.n, .slice x.D x.d.length x.c], SX.Ent.blk g4 30 #[.slice A m.l.length c, .slice B m.l.length d, .int .i64 m.now], SX.Ent.blk g 63 #[sv, so, .int .i64 m.now], SX.Ent.row sv 72 6 m.l.length (m.chs.flatMap chC), SX.Ent.row so 3 1 m.l.length (ints .i64 (natI (ordL m.l)))] ++ Ln) := SX.St.rot (L1 := Ln) hs
                    refine Z.lb 3 rfl ?_
                    refine Z.le rfl trivial ?_
                    refine Z.ZO.alloc rfl rfl (by rfl) Try.zeroValue30 rfl hs ?_
                    clear hs; intro g15 w15 hs
                    refine Z.le rfl trivial ?_
                    first | refine Z.ZO.storeA rfl rfl hs rfl rfl (by kernel_rfl) (by first | (simp [Value.oneCell']; done) | (refine Z.all_one ?_; assumption)) (by first | exact SX.at0 | exact SX.at1 | exact SX.at2 | exact SX.at3 | exact SX.at4 | exact SX.at5 | exact Z.at6 | exact Z.at7 | exact Z.at8 | exact Z.at9 | exact Z.at10 | exact Z.at11 | exact Z.at12) (by rfl) ?_ | refine Z.ZO.storeP rfl rfl hs rfl rfl (by kernel_rfl) (by first | (simp [Value.oneCell']; done) | (refine Z.all_one ?_; assumption)) (by first | exact SX.at0 | exact SX.at1 | exact SX.at2 | exact SX.at3 | exact SX.at4 | exact SX.at5 | exact Z.at6 | exact Z.at7 | exact Z.at8 | exact Z.at9 | exact Z.at10 | exact Z.at11 | exact Z.at12) (by first | decide | (simp; done) | (simp; omega)) ?_ | refine Z.ZO.storePR rfl rfl hs rfl rfl (by kernel_rfl) (by first | (simp [Value.oneCell']; done) | (refine Z.all_one ?_; assumption)) (by first | exact SX.at0 | exact SX.at1 | exact SX.at2 | exact SX.at3 | exact SX.at4 | exact SX.at5 | exact Z.at6 | exact Z.at7 | exact Z.at8 | exact Z.at9 | exact Z.at10 | exact Z.at11 | exact Z.at12) (by first | decide | (simp; done) | (simp; omega)) ?_
                    clear hs; intro ws hs
                    simp only [Nat.zero_add, Nat.add_zero, Nat.reduceAdd, Int.reduceToNat, Nat.reduceMul, List.set_cons_zero, List.set_cons_succ, List.setIfInBounds_toArray] at hs
                    try simp only [Z.putL, Nat.zero_add] at hs
                    refine Z.lb 1 rfl ?_
                    refine Z.lnil ?_
                    refine Z.only [0, 7, 14, 15, 16] rfl ?_
                    refine Z.nthen ?_
                    refine Z.seq ?_
                    refine Z.drawL [SX.Ent.blk g15 30 #[.slice A m.l.length c, .slice Bn m.l.length dn, .int .i64 (tickV m (x.at m.now)).1.now]] (fun _ => true) mixed hs ?_
                    clear hs; intro wd15 hs
                    refine Z.tb [0] (by kernel_rfl) rfl ⟨_, hs, by first | (simp; done) | exact fun e he => List.mem_append_right _ he⟩ rfl ?_
                    refine Z.t 1 rfl rfl rfl (by rfl) (by kernel_rfl) ⟨_, hs, by first | (simp; done) | exact fun e he => List.mem_append_right _ he⟩ (by first | exact Z.Yd.loadA _ rfl Try.isAgg30 (fun _ => Z.cellsB (by first | ((repeat (first | exact List.mem_cons_self | refine List.mem_cons_of_mem _ ?_ | refine List.mem_append_right _ ?_)); done) | fail)) (by exact Try.sizeOf30) | fail "load 15.1") ?_
                    refine Z.tb [2, 3, 6] (by kernel_rfl) rfl ⟨_, hs, by first | (simp; done) | exact fun e he => List.mem_append_right _ he⟩ rfl ?_
                    replace hs : SX.St w M _ (bkE g sv so m ++ ([SX.Ent.blk g15 30 #[.slice A m.l.length c, .slice Bn m.l.length dn, .int .i64 (tickV m (x.at m.now)).1.now], SX.Ent.blk g7 _ _] ++ Ln)) := SX.St.selT (L1 := [_, _, _, _, _, _, _]) hs [4, 5, 6, 0, 1] (by decide)
                    refine Z.tn 4 rfl rfl (by kernel_rfl) rfl trivial ?_
                    refine Z.ZO.call rfl rfl (by rfl) rfl rfl Try.call14 rfl (bk_tick g sv so m (x.at m.now) _ hs.lend hm) ?_
                    rintro v15_4 w15_4 ⟨rfl, hz⟩
                    replace hs := hs.regain hz
                    replace hs : SX.St w M _ ([SX.Ent.blk g15 _ _, SX.Ent.blk g7 30 #[.slice none 0 0, .slice none 0 0, .int .i64 0]] ++ (bkE g sv so (tickV m (x.at m.now)).1 ++ Ln)) := SX.St.selT (L1 := [_, _, _, _, _]) hs [3, 4, 0, 1, 2] (by decide)
                    refine Z.tk (Dn := fun _ => true) (i := 4) (fun _ => ⟨_, hs, by first | (simp; done) | exact fun e he => List.mem_append_right _ he⟩) ?_
                    refine Z.tn 5 rfl rfl (by kernel_rfl) rfl trivial ?_
                    refine Z.ZO.call rfl rfl (by rfl) rfl rfl Try.call15 rfl (bk_num _ _) ?_
                    rintro v15_5 w15_5 ⟨rfl, hy⟩
                    replace hs := hs.call hy
                    clear hy
                    try simp only [List.cons_append, List.nil_append, List.append_nil] at hs
                    refine Z.tk (Dn := fun _ => true) (i := 5) (fun _ => ⟨_, hs, by first | (simp; done) | exact fun e he => List.mem_append_right _ he⟩) ?_
                    refine Z.tb [7, 8] (by kernel_rfl) rfl ⟨_, hs, by first | (simp; done) | exact fun e he => List.mem_append_right _ he⟩ rfl ?_
                    refine Z.tn 9 rfl rfl (by kernel_rfl) rfl trivial ?_
                    first | refine Z.ZO.storeA rfl rfl hs rfl rfl (by kernel_rfl) (by first | (simp [Value.oneCell']; done) | (refine Z.all_one ?_; assumption)) (by first | exact SX.at0 | exact SX.at1 | exact SX.at2 | exact SX.at3 | exact SX.at4 | exact SX.at5 | exact Z.at6 | exact Z.at7 | exact Z.at8 | exact Z.at9 | exact Z.at10 | exact Z.at11 | exact Z.at12) (by rfl) ?_ | refine Z.ZO.storeP rfl rfl hs rfl rfl (by kernel_rfl) (by first | (simp [Value.oneCell']; done) | (refine Z.all_one ?_; assumption)) (by first | exact SX.at0 | exact SX.at1 | exact SX.at2 | exact SX.at3 | exact SX.at4 | exact SX.at5 | exact Z.at6 | exact Z.at7 | exact Z.at8 | exact Z.at9 | exact Z.at10 | exact Z.at11 | exact Z.at12) (by first | decide | (simp; done) | (simp; omega)) ?_ | refine Z.ZO.storePR rfl rfl hs rfl rfl (by kernel_rfl) (by first | (simp [Value.oneCell']; done) | (refine Z.all_one ?_; assumption)) (by first | exact SX.at0 | exact SX.at1 | exact SX.at2 | exact SX.at3 | exact SX.at4 | exact SX.at5 | exact Z.at6 | exact Z.at7 | exact Z.at8 | exact Z.at9 | exact Z.at10 | exact Z.at11 | exact Z.at12) (by first | decide | (simp; done) | (simp; omega)) ?_
                    clear hs; intro ws hs
                    simp only [Nat.zero_add, Nat.add_zero, Nat.reduceAdd, Int.reduceToNat, Nat.reduceMul, List.set_cons_zero, List.set_cons_succ, List.setIfInBounds_toArray] at hs
                    try simp only [Z.putL, Nat.zero_add] at hs
                    refine Z.tk (Dn := fun _ => true) (i := 9) (fun _ => ⟨_, hs, by first | (simp; done) | exact fun e he => List.mem_append_right _ he⟩) ?_
                    refine Z.tb [10] (by kernel_rfl) rfl ⟨_, hs, by first | (simp; done) | exact fun e he => List.mem_append_right _ he⟩ rfl ?_
                    refine Z.td (by rfl) (by kernel_rfl) ?_
                    refine Z.only [6, 7, 8] rfl ?_
                    refine Z.nthen ?_
                    refine Z.ret ?_
                    repeat (first | refine Z.rthen ?_ | refine Z.rblock ?_ | refine Z.rscope ?_)
                    -- ret#1
                    refine Z.out3 (by exact ⟨rfl, ⟨_, rfl, Z.rvcA hs Try.isAgg30 (by first | ((repeat (first | exact List.mem_cons_self | refine List.mem_cons_of_mem _ ?_ | refine List.mem_append_right _ ?_)); done) | fail) (by exact Try.sizeOf30)⟩, rfl, trivial⟩) ?_
                    rw [eA]
                    exact ⟨_, rfl, g, sv, so, Bn, dn, Ln, by simp, (show SX.St w M _ ([_, _] ++ (bkE g sv so (tickV m (x.at m.now)).1 ++ Ln)) from hs).sub (List.sublist_append_right _ _), hN⟩
                  )
            · first
                | (exfalso; simp at hc10 <;> omega)
                | (
                  (try simp at hc10)
                  have hw2 : ¬ isT x := by assumption
                  have eA : actB m x = m := by unfold actB; rw [if_neg hw, if_neg hw2]
                  refine Z.skip ?_
                  refine Z.nblock ?_
                  refine Z.nthen ?_
                  refine Z.seq ?_
                  refine Z.drawL [SX.Ent.blk g4 30 #[.slice A m.l.length c, .slice B m.l.length d, .int .i64 m.now]] (fun _ => true) mixed hs ?_
                  clear hs; intro wd16 hs
                  refine Z.tb [0] (by kernel_rfl) rfl ⟨_, hs, by first | (simp; done) | exact fun e he => List.mem_append_right _ he⟩ rfl ?_
                  refine Z.t 2 rfl rfl rfl (by rfl) (by kernel_rfl) ⟨_, hs, by first | (simp; done) | exact fun e he => List.mem_append_right _ he⟩ (by first | exact Z.Yd.loadA _ rfl Try.isAgg30 (fun _ => Z.cellsB (by first | ((repeat (first | exact List.mem_cons_self | refine List.mem_cons_of_mem _ ?_ | refine List.mem_append_right _ ?_)); done) | fail)) (by exact Try.sizeOf30) | fail "load 16.2") ?_
                  refine Z.tn 1 rfl rfl (by kernel_rfl) rfl trivial ?_
                  refine Z.ZO.call rfl rfl (by rfl) rfl rfl Try.call22 rfl (bk_copy g m _ (hs.bkR (sv := sv) (so := so) (fun e he ↦ by simp [bkE] at he ⊢; rcases he with rfl | rfl | rfl <;> simp)) hm) ?_
                  rintro v16_1 w16_1 ⟨g2, sv2, so2, rfl, hy⟩
                  replace hs := hs.call hy
                  clear hy
                  try simp only [List.cons_append, List.nil_append, List.append_nil] at hs
                  replace hs : SX.St w M _ (SX.Ent.blk g7 30 #[.slice none 0 0, .slice none 0 0, .int .i64 0] :: SX.Ent.blk g4 30 #[.slice A m.l.length c, .slice B m.l.length d, .int .i64 m.now] :: bkE g2 sv2 so2 m) := hs.sel [3, 5, 0, 1, 2] (by decide)
                  refine Z.tk (Dn := fun _ => true) (i := 1) (fun _ => ⟨_, hs, by first | (simp; done) | exact fun e he => List.mem_append_right _ he⟩) ?_
                  refine Z.tb [3] (by kernel_rfl) rfl ⟨_, hs, by first | (simp; done) | exact fun e he => List.mem_append_right _ he⟩ rfl ?_
                  refine Z.tn 4 rfl rfl (by kernel_rfl) rfl trivial ?_
                  first | refine Z.ZO.storeA rfl rfl hs rfl rfl (by kernel_rfl) (by first | (simp [Value.oneCell']; done) | (refine Z.all_one ?_; assumption)) (by first | exact SX.at0 | exact SX.at1 | exact SX.at2 | exact SX.at3 | exact SX.at4 | exact SX.at5 | exact Z.at6 | exact Z.at7 | exact Z.at8 | exact Z.at9 | exact Z.at10 | exact Z.at11 | exact Z.at12) (by rfl) ?_ | refine Z.ZO.storeP rfl rfl hs rfl rfl (by kernel_rfl) (by first | (simp [Value.oneCell']; done) | (refine Z.all_one ?_; assumption)) (by first | exact SX.at0 | exact SX.at1 | exact SX.at2 | exact SX.at3 | exact SX.at4 | exact SX.at5 | exact Z.at6 | exact Z.at7 | exact Z.at8 | exact Z.at9 | exact Z.at10 | exact Z.at11 | exact Z.at12) (by first | decide | (simp; done) | (simp; omega)) ?_ | refine Z.ZO.storePR rfl rfl hs rfl rfl (by kernel_rfl) (by first | (simp [Value.oneCell']; done) | (refine Z.all_one ?_; assumption)) (by first | exact SX.at0 | exact SX.at1 | exact SX.at2 | exact SX.at3 | exact SX.at4 | exact SX.at5 | exact Z.at6 | exact Z.at7 | exact Z.at8 | exact Z.at9 | exact Z.at10 | exact Z.at11 | exact Z.at12) (by first | decide | (simp; done) | (simp; omega)) ?_
                  clear hs; intro ws hs
                  simp only [Nat.zero_add, Nat.add_zero, Nat.reduceAdd, Int.reduceToNat, Nat.reduceMul, List.set_cons_zero, List.set_cons_succ, List.setIfInBounds_toArray] at hs
                  try simp only [Z.putL, Nat.zero_add] at hs
                  refine Z.tk (Dn := fun _ => true) (i := 4) (fun _ => ⟨_, hs, by first | (simp; done) | exact fun e he => List.mem_append_right _ he⟩) ?_
                  refine Z.tb [5] (by kernel_rfl) rfl ⟨_, hs, by first | (simp; done) | exact fun e he => List.mem_append_right _ he⟩ rfl ?_
                  refine Z.td (by rfl) (by kernel_rfl) ?_
                  refine Z.only [6, 7, 8] rfl ?_
                  refine Z.nthen ?_
                  refine Z.ret ?_
                  -- ret#2
                  refine Z.out3 (by exact ⟨rfl, ⟨_, rfl, Z.rvcA hs Try.isAgg30 (by first | ((repeat (first | exact List.mem_cons_self | refine List.mem_cons_of_mem _ ?_ | refine List.mem_append_right _ ?_)); done) | fail) (by exact Try.sizeOf30)⟩, rfl, trivial⟩) ?_
                  rw [eA]
                  exact ⟨_, rfl, g2, sv2, so2, B, d, [], rfl, by rw [List.append_nil]; exact (show SX.St w M _ ([_, _] ++ bkE g2 sv2 so2 m) from hs).sub (List.sublist_append_right _ _), .inr ⟨rfl, rfl, rfl, rfl⟩⟩
                  )
          )
end Go.Proofs.Ythdhobnkclddhaa

/- Buckets: any sequence of calls. -/
namespace Go.Proofs.Ythdhobnkclddhaa
open Go.RowKit
set_option linter.unusedSimpArgs false
set_option linter.unusedVariables false
--newlaws

def runB (m : BkV) (l : List AcV) : BkV := l.foldl actB m
theorem runB_snoc (m : BkV) (l : List AcV) (x : AcV) : runB m (l ++ [x]) = actB (runB m l) x := by simp [runB]
theorem runB_l (m : BkV) (l : List AcV) : (runB m l).l = m.l := by
  unfold runB
  induction l generalizing m with
  | nil => rfl
  | cons x l ih => rw [List.foldl_cons, ih, actB_l]
theorem BkV.ok.run {m : BkV} (h : m.ok) (l : List AcV) : (runB m l).ok := by
  unfold runB
  induction l generalizing m with
  | nil => exact h
  | cons x l ih => exact ih (h.act x)
theorem wkv_new (A : Option Addr) (n c : Nat) (l : List LgV) (w : World) (hx : Sl w A (l.flatMap LgV.cells)) (hl : l.length = n) (h : okSet l) :
    Calls Try.prog 10 #[.slice A n c] w (SX.Ret fun v w' => ∃ Ra Rb ca cb, v = .tuple #[.agg #[.slice Ra n ca, .slice Rb n cb, .int .i64 0], .int .i64 0] ∧ SX.St w [] w' [SX.Ent.row (.slice Ra n ca) 38 5 n (l.flatMap LgV.cells), SX.Ent.row (.slice Rb n cb) 3 1 n (ints .i64 (newB l).b)]) := by
  have := rv_new A n c l w hx hl
  simp only [if_pos h] at this
  exact this
theorem wkv_bad (A : Option Addr) (n c : Nat) (l : List LgV) (w : World) (hx : Sl w A (l.flatMap LgV.cells)) (hl : l.length = n) (h : ¬ okSet l) :
    Calls Try.prog 10 #[.slice A n c] w (SX.Ret fun v w' => v = .tuple #[.agg #[.slice none 0 0, .slice none 0 0, .int .i64 0], .int .i64 2] ∧ SX.St w [] w' []) := by
  have := rv_new A n c l w hx hl
  simp only [if_neg h] at this
  exact this
/-- the document's object, of which the rows are ours -/
def rvE (Ra Rb : Option Addr) (ca cb : Nat) (m : BkV) : List SX.Ent := [SX.Ent.row (.slice Ra m.l.length ca) 38 5 m.l.length (m.l.flatMap LgV.cells), SX.Ent.row (.slice Rb m.l.length cb) 3 1 m.l.length (ints .i64 m.b)]
def rvB (g : Nat) (Ra Rb : Option Addr) (ca cb : Nat) (m : BkV) : SX.Ent := SX.Ent.blk g 30 #[.slice Ra m.l.length ca, .slice Rb m.l.length cb, .int .i64 m.now]
set_option maxHeartbeats 2000000 in
set_option maxRecDepth 100000 in
theorem bucketPlays_walk (A C : Option Addr) (n c k d : Nat) (ls : List LgV) (l : List AcV) (w : World) (hx : Sl w A (ls.flatMap LgV.cells)) (hl : ls.length = n) (hc : n ≤ c) (hq : Sl w C (l.flatMap AcV.cells)) (hk : l.length = k) (hg : ∀ x ∈ l, Sl w x.D (ints .i64 x.d)) :
    Calls Try.prog 5 #[.slice A n c, .slice C k d] w (SX.Ret fun v w' => v = .bool true ∧ SX.St w [] w' []) := by
  have hs := SX.St.start w
  by_cases h12 : n ≤ 12
  · by_cases hf : fewL l 20
    · by_cases hset : okSet ls
      · have hok := newB_ok hset
        have h20 : k ≤ 20 := by rw [← hk]; exact hf.1
        refine Z.enter Try.func5 rfl Try.ntmps5 rfl rfl ?_
        refine Z.seq ?_
        refine Z.region ?_
        refine Z.lb 1 rfl ?_
        refine Z.lnil ?_
        refine Z.only [0, 1] rfl ?_
        refine Z.nthen ?_
        refine Z.seq ?_
        refine Z.seq ?_
        refine Z.region ?_
        refine Z.lb 1 rfl ?_
        refine Z.l rfl rfl (by rfl) (Z.keepS hs) (Z.Yd.lenS rfl Try.underlying22) ?_
        refine Z.lb 2 rfl ?_
        refine Z.yes (s := 16) (b := false) rfl ((by simp; omega)) rfl ?_
        refine Z.lb 1 rfl ?_
        refine Z.yes (s := 16) (b := false) rfl rfl rfl ?_
        refine Z.le rfl (by exact ⟨rfl, trivial⟩) ?_
        refine Z.ZO.call rfl rfl (by rfl) rfl rfl Try.call19 rfl (bk_few C k d 20 l _ (hq.st hs) hk (by omega)) ?_
        rintro v1_5 w1_5 ⟨rfl, hy⟩
        replace hs := hs.call hy
        clear hy
        try simp only [List.cons_append, List.nil_append, List.append_nil] at hs
        refine Z.lb 1 rfl ?_
        refine Z.yes (s := 16) (b := false) rfl rfl rfl ?_
        refine Z.l rfl rfl (by rfl) (Z.keepS hs) (Z.Yd.pickF rfl rfl) ?_
        refine Z.lnil ?_
        refine Z.only [0, 1, 20] rfl ?_
        refine Z.nthen ?_
        refine Z.cond rfl (fun h => absurd h (by simp [hf])) (fun hc1 => ?_)
        refine Z.skip ?_
        refine Z.nthen ?_
        refine Z.seq ?_
        refine Z.region ?_
        refine Z.lb 1 rfl ?_
        refine Z.le rfl trivial ?_
        refine Z.ZO.call rfl rfl (by rfl) rfl rfl Try.call9 rfl (wk25_new A n c ls _ (hx.st (hs.sub (List.nil_sublist _))) hl (by omega) hc hset) ?_
        rintro v3_1 w3_1 ⟨g, sv, so, rfl, hy⟩
        replace hs := hs.call hy
        clear hy
        try simp only [List.cons_append, List.nil_append, List.append_nil] at hs
        refine Z.lb 5 rfl ?_
        refine Z.lnil ?_
        refine Z.only [0, 1, 5, 6] rfl ?_
        refine Z.nthen ?_
        refine Z.seq ?_
        refine Z.region ?_
        refine Z.lb 1 rfl ?_
        refine Z.le rfl trivial ?_
        refine Z.ZO.call rfl rfl (by rfl) rfl rfl Try.call10 rfl (wkv_new A n c ls _ (hx.st (hs.sub (List.nil_sublist _))) hl hset) ?_
        rintro v4_1 w4_1 ⟨Ra, Rb, ca, cb, rfl, hy⟩
        replace hs := hs.call hy
        clear hy
        try simp only [List.cons_append, List.nil_append, List.append_nil] at hs
        refine Z.lb 3 rfl ?_
        refine Z.le rfl trivial ?_
        refine Z.ZO.alloc rfl rfl (by rfl) Try.zeroValue30 rfl hs ?_
        clear hs; intro g7 w7 hs
        refine Z.le rfl trivial ?_
        first | refine Z.ZO.storeA rfl rfl hs rfl rfl (by kernel_rfl) (by first | (simp [Value.oneCell']; done) | (refine Z.all_one ?_; assumption)) (by first | exact SX.at0 | exact SX.at1 | exact SX.at2 | exact SX.at3 | exact SX.at4 | exact SX.at5 | exact Z.at6 | exact Z.at7 | exact Z.at8 | exact Z.at9 | exact Z.at10 | exact Z.at11 | exact Z.at12) (by rfl) ?_ | refine Z.ZO.storeP rfl rfl hs rfl rfl (by kernel_rfl) (by first | (simp [Value.oneCell']; done) | (refine Z.all_one ?_; assumption)) (by first | exact SX.at0 | exact SX.at1 | exact SX.at2 | exact SX.at3 | exact SX.at4 | exact SX.at5 | exact Z.at6 | exact Z.at7 | exact Z.at8 | exact Z.at9 | exact Z.at10 | exact Z.at11 | exact Z.at12) (by first | decide | (simp; done) | (simp; omega)) ?_ | refine Z.ZO.storePR rfl rfl hs rfl rfl (by kernel_rfl) (by first | (simp [Value.oneCell']; done) | (refine Z.all_one ?_; assumption)) (by first | exact SX.at0 | exact SX.at1 | exact SX.at2 | exact SX.at3 | exact SX.at4 | exact SX.at5 | exact Z.at6 | exact Z.at7 | exact Z.at8 | exact Z.at9 | exact Z.at10 | exact Z.at11 | exact Z.at12) (by first | decide | (simp; done) | (simp; omega)) ?_
        clear hs; intro ws hs
        simp only [Nat.zero_add, Nat.add_zero, Nat.reduceAdd, Int.reduceToNat, Nat.reduceMul, List.set_cons_zero, List.set_cons_succ, List.setIfInBounds_toArray] at hs
        try simp only [Z.putL, Nat.zero_add] at hs
        refine Z.lb 1 rfl ?_
        refine Z.lnil ?_
        refine Z.only [1, 5, 6, 7, 8] rfl ?_
        refine Z.nthen ?_
        refine Z.seq ?_
        refine Z.seq ?_
        refine Z.region ?_
        refine Z.lb 1 rfl ?_
        refine Z.le rfl trivial ?_
        refine Z.ZO.call rfl rfl (by rfl) rfl rfl Try.call15 rfl (bk_num _ _) ?_
        rintro v5_1 w5_1 ⟨rfl, hy⟩
        replace hs := hs.call hy
        clear hy
        try simp only [List.cons_append, List.nil_append, List.append_nil] at hs
        refine Z.lb 4 rfl ?_
        refine Z.l rfl rfl (by rfl) (Z.keepS hs) (Z.Yd.ptrNnil rfl rfl Try.underlying24) ?_
        refine Z.lb 2 rfl ?_
        refine Z.l rfl rfl (by rfl) (Z.keepS hs) (Z.Yd.bin rfl rfl (by intro _ w; go_simp; try rfl)) ?_
        refine Z.lb 1 rfl ?_
        refine Z.lnil ?_
        refine Z.only [1, 5, 7, 8, 42] rfl ?_
        refine Z.nthen ?_
        refine Z.cond rfl (fun h => absurd h (by simp)) (fun hc5 => ?_)
        refine Z.skip ?_
        refine Z.nthen ?_
        refine Z.seq ?_
        refine Z.seq ?_
        refine Z.region ?_
        subst hl
        replace hs : SX.St w [] _ (bkE g sv so (newB ls) ++ (rvB g7 Ra Rb ca cb (newB ls) :: rvE Ra Rb ca cb (newB ls))) := hs.sel [3, 4, 5, 0, 1, 2] (by decide)
        refine Z.l rfl rfl (by rfl) (Z.keepS hs) (Z.Yd.pure rfl) ?_
        refine Z.lnil ?_
        refine Z.only [1, 5, 7, 8, 9] rfl ?_
        refine Z.nthen ?_
        refine Z.block ?_
        refine Z.loopk (ι := Nat × Nat × Value × Value × Option Addr × Nat) [1, 7, 8] rfl (fun x => [(5, [], .pointer (some ⟨x.2.1, 0, none⟩)), (9, [], .int .i64 (x.1 : Int))]) (fun x wr => x.1 ≤ k ∧ SX.St w [] wr (bkE x.2.1 x.2.2.1 x.2.2.2.1 (runB (newB ls) (l.take x.1)) ++ (rvB g7 Ra x.2.2.2.2.1 ca x.2.2.2.2.2 (runB (newB ls) (l.take x.1)) :: rvE Ra x.2.2.2.2.1 ca x.2.2.2.2.2 (runB (newB ls) (l.take x.1))))) (fun x => k - x.1) (0, g, sv, so, Rb, cb) (by refine ⟨?_, ?_, trivial⟩ <;> (first | rfl | (refine Z.lookv rfl ?_; simp; done) | (refine Z.lookv rfl ?_; simp; omega))) ⟨Nat.zero_le _, hs⟩ ?_
        clear hs
        rintro ⟨i, gi, svi, soi, Rc, cc⟩ w9 ⟨hi, hs⟩
        refine Z.only [1, 5, 7, 8, 9] rfl ?_
        (try dsimp only at hs)
        dsimp only at hi hs
        refine Z.seq ?_
        refine Z.seq ?_
        refine Z.region ?_
        refine Z.lb 2 rfl ?_
        refine Z.l rfl rfl (by rfl) (Z.keepS hs) (Z.Yd.lenS rfl Try.underlying49) ?_
        refine Z.lb 5 rfl ?_
        refine Z.lnil ?_
        refine Z.only [1, 5, 7, 8, 9, 50] rfl ?_
        refine Z.nthen ?_
        refine Z.cond rfl (fun hc8 => ?_) (fun hc8 => ?_)
        · first
            | (exfalso; simp at hc8 <;> omega)
            | (
              (try simp at hc8)
              obtain ⟨bk, off, rfl, hq2⟩ := hq.sx.some (by rw [flat_len ac_len]; omega)
              obtain ⟨y, hyk⟩ : ∃ f, l[i]? = some f := ⟨_, List.getElem?_eq_getElem (by omega)⟩
              have hgy := hg y (List.mem_of_getElem? hyk)
              have hy12 := hf.2 y (List.mem_of_getElem? hyk)
              have hnx : runB (newB ls) (l.take (i + 1)) = actB (runB (newB ls) (l.take i)) y := by rw [List.take_add_one, hyk]; exact runB_snoc _ _ _
              have hmo : (runB (newB ls) (l.take i)).ok := hok.run _
              have hml : (runB (newB ls) (l.take i)).l = ls := runB_l _ _
              generalize runB (newB ls) (l.take i) = mk at hs hnx hmo hml
              replace hs : SX.St w [] w9 (bkE gi svi soi mk ++ [SX.Ent.blk g7 30 #[.slice Ra mk.l.length ca, .slice Rc mk.l.length cc, .int .i64 mk.now], SX.Ent.row (.slice Ra mk.l.length ca) 38 5 mk.l.length (mk.l.flatMap LgV.cells), SX.Ent.row (.slice Rc mk.l.length cc) 3 1 mk.l.length (ints .i64 mk.b)]) := hs
              refine Z.skip ?_
              refine Z.nthen ?_
              refine Z.seq ?_
              refine Z.block ?_
              refine Z.seq ?_
              refine Z.drawL [SX.Ent.blk g7 30 #[.slice Ra mk.l.length ca, .slice Rc mk.l.length cc, .int .i64 mk.now]] (fun _ => true) mixed hs ?_
              clear hs; intro wd10 hs
              refine Z.tb [0] (by kernel_rfl) rfl ⟨_, hs, by first | (simp; done) | exact fun e he => List.mem_append_right _ he⟩ rfl ?_
              refine Z.t 1 rfl rfl rfl (by rfl) (by kernel_rfl) ⟨_, hs, by first | (simp; done) | exact fun e he => List.mem_append_right _ he⟩ (Z.Yd.loadA _ rfl Try.isAgg30 (fun _ => Z.cellsB (cs := [.slice Ra mk.l.length ca, .slice Rc mk.l.length cc, .int .i64 mk.now]) (by first | ((repeat (first | exact List.mem_cons_self | refine List.mem_cons_of_mem _ ?_ | refine List.mem_append_right _ ?_)); done) | fail)) (by exact Try.sizeOf30)) ?_
              refine Z.tb [2, 3] (by kernel_rfl) rfl ⟨_, hs, by first | (simp; done) | exact fun e he => List.mem_append_right _ he⟩ rfl ?_
              refine Z.t 4 rfl rfl rfl (by rfl) (by kernel_rfl) ⟨_, hs, by first | (simp; done) | exact fun e he => List.mem_append_right _ he⟩ (Z.Yd.elem rfl rfl Try.underlying49 Try.sizeOf54 (fun hG => ⟨(by first | omega | (have hG' := Z.gh rfl hG; simp at hG'; omega)), (by first | omega | (have hG' := Z.gh rfl hG; simp at hG'; omega))⟩)) ?_
              refine Z.t 5 rfl rfl rfl (by rfl) (by kernel_rfl) ⟨_, hs, by first | (simp; done) | exact fun e he => List.mem_append_right _ he⟩ (Z.Yd.loadA _ rfl Try.isAgg54 (fun _ => Z.cellsX y.cells hq2 ac_len hyk rfl) (by exact Try.sizeOf54)) ?_
              refine Z.fork2 6 11 rfl rfl rfl (by kernel_rfl) rfl rfl trivial trivial ?_ ?_
              · skip
                first
                | replace hs : SX.St w [] _ (bkE gi svi soi mk ++ [SX.Ent.blk g7 _ _, SX.Ent.row _ _ _ _ _, SX.Ent.row _ _ _ _ _]) := hs
                | replace hs : SX.St w [] _ (bkE gi svi soi mk ++ [SX.Ent.blk g7 _ _, SX.Ent.row _ _ _ _ _, SX.Ent.row _ _ _ _ _, SX.Ent.blk g11 _ _]) := hs.sel [1, 2, 3, 4, 5, 6, 0] (by decide)
                refine Z.ZO.call rfl rfl (by rfl) rfl rfl Try.call20 rfl (bk_act gi svi soi Ra Rc ca cc mk y _ hs.lend hmo (Z.row_lentv hs (j := 1) rfl) (Z.row_lentv hs (j := 2) rfl) (hgy.sx.lent hs) (by omega)) ?_
                rintro v10_6 w10_6 ⟨gn, svn, son, Rn, cn, Ln, rfl, hz, hN⟩
                replace hs := hs.regain hz
                have hml2 : (actB mk y).l = mk.l := actB_l _ _
                first
                | replace hs : SX.St w [] w10_6 (bkE gn svn son (actB mk y) ++ [SX.Ent.blk g7 30 #[.slice Ra mk.l.length ca, .slice Rc mk.l.length cc, .int .i64 mk.now], SX.Ent.row (.slice Ra mk.l.length ca) 38 5 mk.l.length (mk.l.flatMap LgV.cells), SX.Ent.row (.slice Rn mk.l.length cn) 3 1 mk.l.length (ints .i64 (actB mk y).b), SX.Ent.blk g11 30 #[.slice none 0 0, .slice none 0 0, .int .i64 0]]) := by
                    rcases hN with rfl | ⟨rfl, rfl, rfl, e⟩
                    · exact hs.sel [0, 1, 2, 4, 5, 3, 7] (by decide)
                    · rw [e]; exact hs.sel [0, 1, 2, 3, 4, 5, 6] (by decide)
                | replace hs : SX.St w [] w10_6 (bkE gn svn son (actB mk y) ++ [SX.Ent.blk g7 30 #[.slice Ra mk.l.length ca, .slice Rc mk.l.length cc, .int .i64 mk.now], SX.Ent.row (.slice Ra mk.l.length ca) 38 5 mk.l.length (mk.l.flatMap LgV.cells), SX.Ent.row (.slice Rn mk.l.length cn) 3 1 mk.l.length (ints .i64 (actB mk y).b)]) := by
                    rcases hN with rfl | ⟨rfl, rfl, rfl, e⟩
                    · exact hs.sel [0, 1, 2, 4, 5, 3] (by decide)
                    · rw [e]; exact hs.sel [0, 1, 2, 3, 4, 5] (by decide)
                simp only [bkE, List.cons_append, List.nil_append] at hs
                refine Z.tk (Dn := fun _ => true) (i := 6) (fun _ => ⟨_, hs, by first | (simp; done) | exact fun e he => List.mem_append_right _ he⟩) ?_
                refine Z.tb [7, 8, 9, 10] (by kernel_rfl) rfl ⟨_, hs, by first | (simp; done) | exact fun e he => List.mem_append_right _ he⟩ rfl ?_
                refine Z.tn 11 rfl rfl (by kernel_rfl) rfl trivial ?_
                refine Z.ZO.alloc rfl rfl (by rfl) Try.zeroValue30 rfl hs ?_
                clear hs; intro g11 w11 hs
                refine Z.tk (Dn := fun _ => true) (i := 11) (fun _ => ⟨_, hs, by first | (simp; done) | exact fun e he => List.mem_append_right _ he⟩) ?_
                refine Z.tb [12] (by kernel_rfl) rfl ⟨_, hs, by first | (simp; done) | exact fun e he => List.mem_append_right _ he⟩ rfl ?_
                refine Z.tn 13 rfl rfl (by kernel_rfl) rfl trivial ?_
                first | refine Z.ZO.storeA rfl rfl hs rfl rfl (by kernel_rfl) (by first | (simp [Value.oneCell']; done) | (refine Z.all_one ?_; assumption)) (by first | exact SX.at0 | exact SX.at1 | exact SX.at2 | exact SX.at3 | exact SX.at4 | exact SX.at5 | exact Z.at6 | exact Z.at7 | exact Z.at8 | exact Z.at9 | exact Z.at10 | exact Z.at11 | exact Z.at12) (by rfl) ?_ | refine Z.ZO.storeP rfl rfl hs rfl rfl (by kernel_rfl) (by first | (simp [Value.oneCell']; done) | (refine Z.all_one ?_; assumption)) (by first | exact SX.at0 | exact SX.at1 | exact SX.at2 | exact SX.at3 | exact SX.at4 | exact SX.at5 | exact Z.at6 | exact Z.at7 | exact Z.at8 | exact Z.at9 | exact Z.at10 | exact Z.at11 | exact Z.at12) (by first | decide | (simp; done) | (simp; omega)) ?_ | refine Z.ZO.storePR rfl rfl hs rfl rfl (by kernel_rfl) (by first | (simp [Value.oneCell']; done) | (refine Z.all_one ?_; assumption)) (by first | exact SX.at0 | exact SX.at1 | exact SX.at2 | exact SX.at3 | exact SX.at4 | exact SX.at5 | exact Z.at6 | exact Z.at7 | exact Z.at8 | exact Z.at9 | exact Z.at10 | exact Z.at11 | exact Z.at12) (by first | decide | (simp; done) | (simp; omega)) ?_
                clear hs; intro ws hs
                simp only [Nat.zero_add, Nat.add_zero, Nat.reduceAdd, Int.reduceToNat, Nat.reduceMul, List.set_cons_zero, List.set_cons_succ, List.setIfInBounds_toArray] at hs
                try simp only [Z.putL, Nat.zero_add] at hs
                refine Z.tk (Dn := fun _ => true) (i := 13) (fun _ => ⟨_, hs, by first | (simp; done) | exact fun e he => List.mem_append_right _ he⟩) ?_
                refine Z.tb [14] (by kernel_rfl) rfl ⟨_, hs, by first | (simp; done) | exact fun e he => List.mem_append_right _ he⟩ rfl ?_
                refine Z.td (by rfl) (by kernel_rfl) ?_
                refine Z.only [1, 7, 8, 9, 10, 11, 12] rfl ?_
                first
                | replace hs : SX.St w [] _ (SX.Ent.blk g11 30 #[.slice Ra mk.l.length ca, .slice Rn mk.l.length cn, .int .i64 (actB mk y).now] :: (bkE gn svn son (actB mk y) ++ [SX.Ent.blk g7 _ _, SX.Ent.row _ _ _ _ _, SX.Ent.row _ _ _ _ _])) := hs
                | replace hs : SX.St w [] _ (SX.Ent.blk g11 30 #[.slice Ra mk.l.length ca, .slice Rn mk.l.length cn, .int .i64 (actB mk y).now] :: (bkE gn svn son (actB mk y) ++ [SX.Ent.blk g7 _ _, SX.Ent.row _ _ _ _ _, SX.Ent.row _ _ _ _ _])) := hs.sel [6, 0, 1, 2, 3, 4, 5] (by decide)
                simp only [bkE, List.cons_append, List.nil_append] at hs
                refine Z.nthen ?_
                refine Z.seq ?_
                refine Z.drawK (fun j => j != 3) mixed hs ?_
                clear hs; intro wd11 hs
                refine Z.tb [0] (by kernel_rfl) rfl ⟨_, hs, by first | (simp; done) | exact fun e he => List.mem_append_right _ he⟩ rfl ?_
                refine Z.t 1 rfl rfl rfl (by rfl) (by kernel_rfl) ⟨_, hs, by first | (simp; done) | exact fun e he => List.mem_append_right _ he⟩ (Z.Yd.loadA _ rfl Try.isAgg30 (fun _ => Z.cellsB (cs := [.slice Ra mk.l.length ca, .slice Rn mk.l.length cn, .int .i64 (actB mk y).now]) (by first | ((repeat (first | exact List.mem_cons_self | refine List.mem_cons_of_mem _ ?_ | refine List.mem_append_right _ ?_)); done) | fail)) (by exact Try.sizeOf30)) ?_
                refine Z.tb [2] (by kernel_rfl) rfl ⟨_, hs, by first | (simp; done) | exact fun e he => List.mem_append_right _ he⟩ rfl ?_
                refine Z.tn 3 rfl rfl (by kernel_rfl) rfl trivial ?_
                first | refine Z.ZO.storeA rfl rfl hs rfl rfl (by kernel_rfl) (by first | (simp [Value.oneCell']; done) | (refine Z.all_one ?_; assumption)) (by first | exact SX.at0 | exact SX.at1 | exact SX.at2 | exact SX.at3 | exact SX.at4 | exact SX.at5 | exact Z.at6 | exact Z.at7 | exact Z.at8 | exact Z.at9 | exact Z.at10 | exact Z.at11 | exact Z.at12) (by rfl) ?_ | refine Z.ZO.storeP rfl rfl hs rfl rfl (by kernel_rfl) (by first | (simp [Value.oneCell']; done) | (refine Z.all_one ?_; assumption)) (by first | exact SX.at0 | exact SX.at1 | exact SX.at2 | exact SX.at3 | exact SX.at4 | exact SX.at5 | exact Z.at6 | exact Z.at7 | exact Z.at8 | exact Z.at9 | exact Z.at10 | exact Z.at11 | exact Z.at12) (by first | decide | (simp; done) | (simp; omega)) ?_ | refine Z.ZO.storePR rfl rfl hs rfl rfl (by kernel_rfl) (by first | (simp [Value.oneCell']; done) | (refine Z.all_one ?_; assumption)) (by first | exact SX.at0 | exact SX.at1 | exact SX.at2 | exact SX.at3 | exact SX.at4 | exact SX.at5 | exact Z.at6 | exact Z.at7 | exact Z.at8 | exact Z.at9 | exact Z.at10 | exact Z.at11 | exact Z.at12) (by first | decide | (simp; done) | (simp; omega)) ?_
                clear hs; intro ws hs
                simp only [Nat.zero_add, Nat.add_zero, Nat.reduceAdd, Int.reduceToNat, Nat.reduceMul, List.set_cons_zero, List.set_cons_succ, List.setIfInBounds_toArray] at hs
                try simp only [Z.putL, Nat.zero_add] at hs
                refine Z.tk (Dn := fun j => j != 3) (i := 3) (fun h => absurd h (by decide)) ?_
                refine Z.td (by rfl) (by kernel_rfl) ?_
                refine Z.only [1, 5, 7, 8, 9, 12] rfl ?_
                rw [← hml2] at hs
                have hmo2 : (actB mk y).ok := hmo.act y
                generalize actB mk y = mk2 at hs hnx hmo2
                replace hs : SX.St w [] _ (SX.Ent.blk g11 _ _ :: (bkE gn svn son mk2 ++ (rvB g7 Ra Rn ca cn mk2 :: rvE Ra Rn ca cn mk2))) := hs
                replace hs := hs.tl
                simp only [bkE, rvB, rvE, List.cons_append, List.nil_append] at hs
                refine Z.nthen ?_
                refine Z.seq ?_
                refine Z.region ?_
                refine Z.lb 3 rfl ?_
                refine Z.yes (s := 68) (b := false) rfl ((by simp)) rfl ?_
                refine Z.lb 1 rfl ?_
                refine Z.l rfl rfl (by rfl) (Z.keepS hs) (Z.Yd.loadA _ rfl Try.isAgg30 (fun _ => Z.cellsB (cs := [.slice Ra mk2.l.length ca, .slice Rn mk2.l.length cn, .int .i64 mk2.now]) (by first | ((repeat (first | exact List.mem_cons_self | refine List.mem_cons_of_mem _ ?_ | refine List.mem_append_right _ ?_)); done) | fail)) (by exact Try.sizeOf30)) ?_
                refine Z.yes (s := 68) (b := false) rfl rfl rfl ?_
                refine Z.le rfl (by exact ⟨rfl, trivial⟩) ?_
                refine Z.ZO.call rfl rfl (by rfl) rfl rfl Try.call21 rfl (bk_is gn Ra Rn ca cn mk2 _ (hs.bkR (sv := svn) (so := son) (fun e he ↦ by simp [bkE] at he ⊢; rcases he with rfl | rfl | rfl <;> simp)) (hs.slm (A := Ra) (xs := mk2.l.flatMap LgV.cells) (by first | ((repeat (first | exact List.mem_cons_self | refine List.mem_cons_of_mem _ ?_ | refine List.mem_append_right _ ?_)); done) | fail)) (hs.slm (A := Rn) (xs := ints .i64 mk2.b) (by first | ((repeat (first | exact List.mem_cons_self | refine List.mem_cons_of_mem _ ?_ | refine List.mem_append_right _ ?_)); done) | fail)) hmo2) ?_
                rintro v12_5 w12_5 ⟨rfl, hy⟩
                replace hs := hs.call hy
                clear hy
                try simp only [List.cons_append, List.nil_append, List.append_nil] at hs
                refine Z.lb 1 rfl ?_
                refine Z.yes (s := 68) (b := false) rfl rfl rfl ?_
                refine Z.l rfl rfl (by rfl) (Z.keepS hs) (Z.Yd.pickF rfl rfl) ?_
                refine Z.lnil ?_
                refine Z.only [1, 5, 7, 8, 9, 73] rfl ?_
                refine Z.nthen ?_
                refine Z.cond rfl (fun h => absurd h (by simp)) (fun hc12 => ?_)
                refine Z.skip ?_
                refine Z.nblock ?_
                refine Z.nthen ?_
                refine Z.region ?_
                refine Z.lb 1 rfl ?_
                refine Z.l rfl rfl (by rfl) (Z.keepS hs) (Z.Yd.add rfl rfl (fun hG => Z.wi64 (by first | omega | (have hG' := Z.gh rfl hG; simp at hG'; omega)))) ?_
                refine Z.lb 1 rfl ?_
                refine Z.lnil ?_
                refine Z.only [1, 5, 7, 8, 9] rfl ?_
                refine Z.nthen ?_
                exact Z.again (i + 1, gn, svn, son, Rn, cn) (by refine ⟨?_, ?_, ?_, ?_, ?_, trivial⟩ <;> (first | rfl | (refine Z.lookv rfl ?_; simp; done) | (refine Z.lookv rfl ?_; simp; omega))) ⟨by simp only; omega, by simp only; rw [hnx]; exact hs⟩ (by simp only; omega)
              · skip
                refine Z.ZO.alloc rfl rfl (by rfl) Try.zeroValue30 rfl hs ?_
                clear hs; intro g11 w11 hs
                refine Z.tk (Dn := fun _ => true) (i := 11) (fun _ => ⟨_, hs, by first | (simp; done) | exact fun e he => List.mem_append_right _ he⟩) ?_
                first
                | replace hs : SX.St w [] _ (bkE gi svi soi mk ++ [SX.Ent.blk g7 _ _, SX.Ent.row _ _ _ _ _, SX.Ent.row _ _ _ _ _]) := hs
                | replace hs : SX.St w [] _ (bkE gi svi soi mk ++ [SX.Ent.blk g7 _ _, SX.Ent.row _ _ _ _ _, SX.Ent.row _ _ _ _ _, SX.Ent.blk g11 _ _]) := hs.sel [1, 2, 3, 4, 5, 6, 0] (by decide)
                refine Z.tn 6 rfl rfl (by kernel_rfl) rfl trivial ?_
                refine Z.ZO.call rfl rfl (by rfl) rfl rfl Try.call20 rfl (bk_act gi svi soi Ra Rc ca cc mk y _ hs.lend hmo (Z.row_lentv hs (j := 1) rfl) (Z.row_lentv hs (j := 2) rfl) (hgy.sx.lent hs) (by omega)) ?_
                rintro v10_6 w10_6 ⟨gn, svn, son, Rn, cn, Ln, rfl, hz, hN⟩
                replace hs := hs.regain hz
                have hml2 : (actB mk y).l = mk.l := actB_l _ _
                first
                | replace hs : SX.St w [] w10_6 (bkE gn svn son (actB mk y) ++ [SX.Ent.blk g7 30 #[.slice Ra mk.l.length ca, .slice Rc mk.l.length cc, .int .i64 mk.now], SX.Ent.row (.slice Ra mk.l.length ca) 38 5 mk.l.length (mk.l.flatMap LgV.cells), SX.Ent.row (.slice Rn mk.l.length cn) 3 1 mk.l.length (ints .i64 (actB mk y).b), SX.Ent.blk g11 30 #[.slice none 0 0, .slice none 0 0, .int .i64 0]]) := by
                    rcases hN with rfl | ⟨rfl, rfl, rfl, e⟩
                    · exact hs.sel [0, 1, 2, 4, 5, 3, 7] (by decide)
                    · rw [e]; exact hs.sel [0, 1, 2, 3, 4, 5, 6] (by decide)
                | replace hs : SX.St w [] w10_6 (bkE gn svn son (actB mk y) ++ [SX.Ent.blk g7 30 #[.slice Ra mk.l.length ca, .slice Rc mk.l.length cc, .int .i64 mk.now], SX.Ent.row (.slice Ra mk.l.length ca) 38 5 mk.l.length (mk.l.flatMap LgV.cells), SX.Ent.row (.slice Rn mk.l.length cn) 3 1 mk.l.length (ints .i64 (actB mk y).b)]) := by
                    rcases hN with rfl | ⟨rfl, rfl, rfl, e⟩
                    · exact hs.sel [0, 1, 2, 4, 5, 3] (by decide)
                    · rw [e]; exact hs.sel [0, 1, 2, 3, 4, 5] (by decide)
                simp only [bkE, List.cons_append, List.nil_append] at hs
                refine Z.tk (Dn := fun _ => true) (i := 6) (fun _ => ⟨_, hs, by first | (simp; done) | exact fun e he => List.mem_append_right _ he⟩) ?_
                refine Z.tb [7, 8, 9, 10, 12] (by kernel_rfl) rfl ⟨_, hs, by first | (simp; done) | exact fun e he => List.mem_append_right _ he⟩ rfl ?_
                refine Z.tn 13 rfl rfl (by kernel_rfl) rfl trivial ?_
                first | refine Z.ZO.storeA rfl rfl hs rfl rfl (by kernel_rfl) (by first | (simp [Value.oneCell']; done) | (refine Z.all_one ?_; assumption)) (by first | exact SX.at0 | exact SX.at1 | exact SX.at2 | exact SX.at3 | exact SX.at4 | exact SX.at5 | exact Z.at6 | exact Z.at7 | exact Z.at8 | exact Z.at9 | exact Z.at10 | exact Z.at11 | exact Z.at12) (by rfl) ?_ | refine Z.ZO.storeP rfl rfl hs rfl rfl (by kernel_rfl) (by first | (simp [Value.oneCell']; done) | (refine Z.all_one ?_; assumption)) (by first | exact SX.at0 | exact SX.at1 | exact SX.at2 | exact SX.at3 | exact SX.at4 | exact SX.at5 | exact Z.at6 | exact Z.at7 | exact Z.at8 | exact Z.at9 | exact Z.at10 | exact Z.at11 | exact Z.at12) (by first | decide | (simp; done) | (simp; omega)) ?_ | refine Z.ZO.storePR rfl rfl hs rfl rfl (by kernel_rfl) (by first | (simp [Value.oneCell']; done) | (refine Z.all_one ?_; assumption)) (by first | exact SX.at0 | exact SX.at1 | exact SX.at2 | exact SX.at3 | exact SX.at4 | exact SX.at5 | exact Z.at6 | exact Z.at7 | exact Z.at8 | exact Z.at9 | exact Z.at10 | exact Z.at11 | exact Z.at12) (by first | decide | (simp; done) | (simp; omega)) ?_
                clear hs; intro ws hs
                simp only [Nat.zero_add, Nat.add_zero, Nat.reduceAdd, Int.reduceToNat, Nat.reduceMul, List.set_cons_zero, List.set_cons_succ, List.setIfInBounds_toArray] at hs
                try simp only [Z.putL, Nat.zero_add] at hs
                refine Z.tk (Dn := fun _ => true) (i := 13) (fun _ => ⟨_, hs, by first | (simp; done) | exact fun e he => List.mem_append_right _ he⟩) ?_
                refine Z.tb [14] (by kernel_rfl) rfl ⟨_, hs, by first | (simp; done) | exact fun e he => List.mem_append_right _ he⟩ rfl ?_
                refine Z.td (by rfl) (by kernel_rfl) ?_
                refine Z.only [1, 7, 8, 9, 10, 11, 12] rfl ?_
                first
                | replace hs : SX.St w [] _ (SX.Ent.blk g11 30 #[.slice Ra mk.l.length ca, .slice Rn mk.l.length cn, .int .i64 (actB mk y).now] :: (bkE gn svn son (actB mk y) ++ [SX.Ent.blk g7 _ _, SX.Ent.row _ _ _ _ _, SX.Ent.row _ _ _ _ _])) := hs
                | replace hs : SX.St w [] _ (SX.Ent.blk g11 30 #[.slice Ra mk.l.length ca, .slice Rn mk.l.length cn, .int .i64 (actB mk y).now] :: (bkE gn svn son (actB mk y) ++ [SX.Ent.blk g7 _ _, SX.Ent.row _ _ _ _ _, SX.Ent.row _ _ _ _ _])) := hs.sel [6, 0, 1, 2, 3, 4, 5] (by decide)
                simp only [bkE, List.cons_append, List.nil_append] at hs
                refine Z.nthen ?_
                refine Z.seq ?_
                refine Z.drawK (fun j => j != 3) mixed hs ?_
                clear hs; intro wd11 hs
                refine Z.tb [0] (by kernel_rfl) rfl ⟨_, hs, by first | (simp; done) | exact fun e he => List.mem_append_right _ he⟩ rfl ?_
                refine Z.t 1 rfl rfl rfl (by rfl) (by kernel_rfl) ⟨_, hs, by first | (simp; done) | exact fun e he => List.mem_append_right _ he⟩ (Z.Yd.loadA _ rfl Try.isAgg30 (fun _ => Z.cellsB (cs := [.slice Ra mk.l.length ca, .slice Rn mk.l.length cn, .int .i64 (actB mk y).now]) (by first | ((repeat (first | exact List.mem_cons_self | refine List.mem_cons_of_mem _ ?_ | refine List.mem_append_right _ ?_)); done) | fail)) (by exact Try.sizeOf30)) ?_
                refine Z.tb [2] (by kernel_rfl) rfl ⟨_, hs, by first | (simp; done) | exact fun e he => List.mem_append_right _ he⟩ rfl ?_
                refine Z.tn 3 rfl rfl (by kernel_rfl) rfl trivial ?_
                first | refine Z.ZO.storeA rfl rfl hs rfl rfl (by kernel_rfl) (by first | (simp [Value.oneCell']; done) | (refine Z.all_one ?_; assumption)) (by first | exact SX.at0 | exact SX.at1 | exact SX.at2 | exact SX.at3 | exact SX.at4 | exact SX.at5 | exact Z.at6 | exact Z.at7 | exact Z.at8 | exact Z.at9 | exact Z.at10 | exact Z.at11 | exact Z.at12) (by rfl) ?_ | refine Z.ZO.storeP rfl rfl hs rfl rfl (by kernel_rfl) (by first | (simp [Value.oneCell']; done) | (refine Z.all_one ?_; assumption)) (by first | exact SX.at0 | exact SX.at1 | exact SX.at2 | exact SX.at3 | exact SX.at4 | exact SX.at5 | exact Z.at6 | exact Z.at7 | exact Z.at8 | exact Z.at9 | exact Z.at10 | exact Z.at11 | exact Z.at12) (by first | decide | (simp; done) | (simp; omega)) ?_ | refine Z.ZO.storePR rfl rfl hs rfl rfl (by kernel_rfl) (by first | (simp [Value.oneCell']; done) | (refine Z.all_one ?_; assumption)) (by first | exact SX.at0 | exact SX.at1 | exact SX.at2 | exact SX.at3 | exact SX.at4 | exact SX.at5 | exact Z.at6 | exact Z.at7 | exact Z.at8 | exact Z.at9 | exact Z.at10 | exact Z.at11 | exact Z.at12) (by first | decide | (simp; done) | (simp; omega)) ?_
                clear hs; intro ws hs
                simp only [Nat.zero_add, Nat.add_zero, Nat.reduceAdd, Int.reduceToNat, Nat.reduceMul, List.set_cons_zero, List.set_cons_succ, List.setIfInBounds_toArray] at hs
                try simp only [Z.putL, Nat.zero_add] at hs
                refine Z.tk (Dn := fun j => j != 3) (i := 3) (fun h => absurd h (by decide)) ?_
                refine Z.td (by rfl) (by kernel_rfl) ?_
                refine Z.only [1, 5, 7, 8, 9, 12] rfl ?_
                rw [← hml2] at hs
                have hmo2 : (actB mk y).ok := hmo.act y
                generalize actB mk y = mk2 at hs hnx hmo2
                replace hs : SX.St w [] _ (SX.Ent.blk g11 _ _ :: (bkE gn svn son mk2 ++ (rvB g7 Ra Rn ca cn mk2 :: rvE Ra Rn ca cn mk2))) := hs
                replace hs := hs.tl
                simp only [bkE, rvB, rvE, List.cons_append, List.nil_append] at hs
                refine Z.nthen ?_
                refine Z.seq ?_
                refine Z.region ?_
                refine Z.lb 3 rfl ?_
                refine Z.yes (s := 68) (b := false) rfl ((by simp)) rfl ?_
                refine Z.lb 1 rfl ?_
                refine Z.l rfl rfl (by rfl) (Z.keepS hs) (Z.Yd.loadA _ rfl Try.isAgg30 (fun _ => Z.cellsB (cs := [.slice Ra mk2.l.length ca, .slice Rn mk2.l.length cn, .int .i64 mk2.now]) (by first | ((repeat (first | exact List.mem_cons_self | refine List.mem_cons_of_mem _ ?_ | refine List.mem_append_right _ ?_)); done) | fail)) (by exact Try.sizeOf30)) ?_
                refine Z.yes (s := 68) (b := false) rfl rfl rfl ?_
                refine Z.le rfl (by exact ⟨rfl, trivial⟩) ?_
                refine Z.ZO.call rfl rfl (by rfl) rfl rfl Try.call21 rfl (bk_is gn Ra Rn ca cn mk2 _ (hs.bkR (sv := svn) (so := son) (fun e he ↦ by simp [bkE] at he ⊢; rcases he with rfl | rfl | rfl <;> simp)) (hs.slm (A := Ra) (xs := mk2.l.flatMap LgV.cells) (by first | ((repeat (first | exact List.mem_cons_self | refine List.mem_cons_of_mem _ ?_ | refine List.mem_append_right _ ?_)); done) | fail)) (hs.slm (A := Rn) (xs := ints .i64 mk2.b) (by first | ((repeat (first | exact List.mem_cons_self | refine List.mem_cons_of_mem _ ?_ | refine List.mem_append_right _ ?_)); done) | fail)) hmo2) ?_
                rintro v12_5 w12_5 ⟨rfl, hy⟩
                replace hs := hs.call hy
                clear hy
                try simp only [List.cons_append, List.nil_append, List.append_nil] at hs
                refine Z.lb 1 rfl ?_
                refine Z.yes (s := 68) (b := false) rfl rfl rfl ?_
                refine Z.l rfl rfl (by rfl) (Z.keepS hs) (Z.Yd.pickF rfl rfl) ?_
                refine Z.lnil ?_
                refine Z.only [1, 5, 7, 8, 9, 73] rfl ?_
                refine Z.nthen ?_
                refine Z.cond rfl (fun h => absurd h (by simp)) (fun hc12 => ?_)
                refine Z.skip ?_
                refine Z.nblock ?_
                refine Z.nthen ?_
                refine Z.region ?_
                refine Z.lb 1 rfl ?_
                refine Z.l rfl rfl (by rfl) (Z.keepS hs) (Z.Yd.add rfl rfl (fun hG => Z.wi64 (by first | omega | (have hG' := Z.gh rfl hG; simp at hG'; omega)))) ?_
                refine Z.lb 1 rfl ?_
                refine Z.lnil ?_
                refine Z.only [1, 5, 7, 8, 9] rfl ?_
                refine Z.nthen ?_
                exact Z.again (i + 1, gn, svn, son, Rn, cn) (by refine ⟨?_, ?_, ?_, ?_, ?_, trivial⟩ <;> (first | rfl | (refine Z.lookv rfl ?_; simp; done) | (refine Z.lookv rfl ?_; simp; omega))) ⟨by simp only; omega, by simp only; rw [hnx]; exact hs⟩ (by simp only; omega)
              )
        · first
            | (exfalso; simp at hc8 <;> omega)
            | (
              (try simp at hc8)
              refine Z.exit ?_
              refine Z.xthen ?_
              refine Z.xthen ?_
              refine Z.xblock ?_
              refine Z.nthen ?_
              refine Z.seq ?_
              refine Z.region ?_
              have hmo : (runB (newB ls) (l.take i)).ok := hok.run _
              generalize runB (newB ls) (l.take i) = mk at hs hmo
              simp only [bkE, rvB, rvE, List.cons_append, List.nil_append] at hs
              refine Z.l rfl rfl (by rfl) (Z.keepS hs) (Z.Yd.pure rfl) ?_
              refine Z.lb 2 rfl ?_
              refine Z.yes (s := 76) (b := false) rfl ((by simp)) rfl ?_
              refine Z.lb 1 rfl ?_
              refine Z.l rfl rfl (by rfl) (Z.keepS hs) (Z.Yd.loadA _ rfl Try.isAgg30 (fun _ => Z.cellsB (cs := [.slice Ra mk.l.length ca, .slice Rc mk.l.length cc, .int .i64 mk.now]) (by first | ((repeat (first | exact List.mem_cons_self | refine List.mem_cons_of_mem _ ?_ | refine List.mem_append_right _ ?_)); done) | fail)) (by exact Try.sizeOf30)) ?_
              refine Z.yes (s := 76) (b := false) rfl rfl rfl ?_
              refine Z.le rfl (by exact ⟨rfl, trivial⟩) ?_
              refine Z.ZO.call rfl rfl (by rfl) rfl rfl Try.call21 rfl (bk_is gi Ra Rc ca cc mk _ (hs.bkR (sv := svi) (so := soi) (fun e he ↦ by simp [bkE] at he ⊢; rcases he with rfl | rfl | rfl <;> simp)) (hs.slm (A := Ra) (xs := mk.l.flatMap LgV.cells) (by first | ((repeat (first | exact List.mem_cons_self | refine List.mem_cons_of_mem _ ?_ | refine List.mem_append_right _ ?_)); done) | fail)) (hs.slm (A := Rc) (xs := ints .i64 mk.b) (by first | ((repeat (first | exact List.mem_cons_self | refine List.mem_cons_of_mem _ ?_ | refine List.mem_append_right _ ?_)); done) | fail)) hmo) ?_
              rintro v14_5 w14_5 ⟨rfl, hy⟩
              replace hs := hs.call hy
              clear hy
              try simp only [List.cons_append, List.nil_append, List.append_nil] at hs
              refine Z.l rfl rfl (by rfl) (Z.keepS hs) (Z.Yd.pickF rfl rfl) ?_
              refine Z.lb 1 rfl ?_
              refine Z.yes (s := 81) (b := true) rfl ((by simp)) rfl ?_
              refine Z.le rfl (by exact ⟨rfl, trivial⟩) ?_
              refine Z.ZO.call rfl rfl (by rfl) rfl rfl Try.call8 rfl (works25 _) ?_
              rintro v14_8 w14_8 ⟨rfl, hy⟩
              replace hs := hs.call hy
              clear hy
              try simp only [List.cons_append, List.nil_append, List.append_nil] at hs
              refine Z.l rfl rfl (by rfl) (Z.keepS hs) (Z.Yd.pickT rfl rfl) ?_
              refine Z.lb 1 rfl ?_
              refine Z.lnil ?_
              refine Z.only [4] rfl ?_
              refine Z.nthen ?_
              refine Z.ret ?_
              -- ret#0
              refine Z.out1 (by exact ⟨rfl, trivial⟩) ?_
              first | exact ⟨_, rfl, rfl, hs⟩ | exact ⟨_, rfl, rfl, hs.sub (List.nil_sublist _)⟩
              )
      · skip
        refine Z.enter Try.func5 rfl Try.ntmps5 rfl rfl ?_
        refine Z.seq ?_
        refine Z.region ?_
        refine Z.lb 1 rfl ?_
        refine Z.lnil ?_
        refine Z.only [0, 1] rfl ?_
        refine Z.nthen ?_
        refine Z.seq ?_
        refine Z.seq ?_
        refine Z.region ?_
        refine Z.lb 1 rfl ?_
        refine Z.l rfl rfl (by rfl) (Z.keepS hs) (Z.Yd.lenS rfl Try.underlying22) ?_
        refine Z.lb 2 rfl ?_
        refine Z.yes (s := 16) (b := false) rfl ((by simp; omega)) rfl ?_
        refine Z.lb 1 rfl ?_
        refine Z.yes (s := 16) (b := false) rfl rfl rfl ?_
        refine Z.le rfl (by exact ⟨rfl, trivial⟩) ?_
        refine Z.ZO.call rfl rfl (by rfl) rfl rfl Try.call19 rfl (bk_few C k d 20 l _ (hq.st hs) hk (by omega)) ?_
        rintro v1_5 w1_5 ⟨rfl, hy⟩
        replace hs := hs.call hy
        clear hy
        try simp only [List.cons_append, List.nil_append, List.append_nil] at hs
        refine Z.lb 1 rfl ?_
        refine Z.yes (s := 16) (b := false) rfl rfl rfl ?_
        refine Z.l rfl rfl (by rfl) (Z.keepS hs) (Z.Yd.pickF rfl rfl) ?_
        refine Z.lnil ?_
        refine Z.only [0, 1, 20] rfl ?_
        refine Z.nthen ?_
        refine Z.cond rfl (fun h => absurd h (by simp [hf])) (fun hc1 => ?_)
        refine Z.skip ?_
        refine Z.nthen ?_
        refine Z.seq ?_
        refine Z.region ?_
        refine Z.lb 1 rfl ?_
        refine Z.le rfl trivial ?_
        refine Z.ZO.call rfl rfl (by rfl) rfl rfl Try.call9 rfl (wk25_bad A n c ls _ (hx.st (hs.sub (List.nil_sublist _))) hl (by omega) hc hset) ?_
        rintro v3_1 w3_1 ⟨rfl, hy⟩
        replace hs := hs.call hy
        clear hy
        try simp only [List.cons_append, List.nil_append, List.append_nil] at hs
        refine Z.lb 5 rfl ?_
        refine Z.lnil ?_
        refine Z.only [0, 1, 5, 6] rfl ?_
        refine Z.nthen ?_
        refine Z.seq ?_
        refine Z.region ?_
        refine Z.lb 1 rfl ?_
        refine Z.le rfl trivial ?_
        refine Z.ZO.call rfl rfl (by rfl) rfl rfl Try.call10 rfl (wkv_bad A n c ls _ (hx.st (hs.sub (List.nil_sublist _))) hl hset) ?_
        rintro v4_1 w4_1 ⟨rfl, hy⟩
        replace hs := hs.call hy
        clear hy
        try simp only [List.cons_append, List.nil_append, List.append_nil] at hs
        refine Z.lb 3 rfl ?_
        refine Z.le rfl trivial ?_
        refine Z.ZO.alloc rfl rfl (by rfl) Try.zeroValue30 rfl hs ?_
        clear hs; intro g7 w7 hs
        refine Z.le rfl trivial ?_
        first | refine Z.ZO.storeA rfl rfl hs rfl rfl (by kernel_rfl) (by first | (simp [Value.oneCell']; done) | (refine Z.all_one ?_; assumption)) (by first | exact SX.at0 | exact SX.at1 | exact SX.at2 | exact SX.at3 | exact SX.at4 | exact SX.at5 | exact Z.at6 | exact Z.at7 | exact Z.at8 | exact Z.at9 | exact Z.at10 | exact Z.at11 | exact Z.at12) (by rfl) ?_ | refine Z.ZO.storeP rfl rfl hs rfl rfl (by kernel_rfl) (by first | (simp [Value.oneCell']; done) | (refine Z.all_one ?_; assumption)) (by first | exact SX.at0 | exact SX.at1 | exact SX.at2 | exact SX.at3 | exact SX.at4 | exact SX.at5 | exact Z.at6 | exact Z.at7 | exact Z.at8 | exact Z.at9 | exact Z.at10 | exact Z.at11 | exact Z.at12) (by first | decide | (simp; done) | (simp; omega)) ?_ | refine Z.ZO.storePR rfl rfl hs rfl rfl (by kernel_rfl) (by first | (simp [Value.oneCell']; done) | (refine Z.all_one ?_; assumption)) (by first | exact SX.at0 | exact SX.at1 | exact SX.at2 | exact SX.at3 | exact SX.at4 | exact SX.at5 | exact Z.at6 | exact Z.at7 | exact Z.at8 | exact Z.at9 | exact Z.at10 | exact Z.at11 | exact Z.at12) (by first | decide | (simp; done) | (simp; omega)) ?_
        clear hs; intro ws hs
        simp only [Nat.zero_add, Nat.add_zero, Nat.reduceAdd, Int.reduceToNat, Nat.reduceMul, List.set_cons_zero, List.set_cons_succ, List.setIfInBounds_toArray] at hs
        try simp only [Z.putL, Nat.zero_add] at hs
        refine Z.lb 1 rfl ?_
        refine Z.lnil ?_
        refine Z.only [1, 5, 6, 7, 8] rfl ?_
        refine Z.nthen ?_
        refine Z.seq ?_
        refine Z.seq ?_
        refine Z.region ?_
        refine Z.lb 1 rfl ?_
        refine Z.le rfl trivial ?_
        refine Z.ZO.call rfl rfl (by rfl) rfl rfl Try.call15 rfl (bk_num _ _) ?_
        rintro v5_1 w5_1 ⟨rfl, hy⟩
        replace hs := hs.call hy
        clear hy
        try simp only [List.cons_append, List.nil_append, List.append_nil] at hs
        refine Z.lb 4 rfl ?_
        refine Z.l rfl rfl (by rfl) (Z.keepS hs) (Z.Yd.ptrNnil rfl rfl Try.underlying24) ?_
        refine Z.lb 2 rfl ?_
        refine Z.l rfl rfl (by rfl) (Z.keepS hs) (Z.Yd.bin rfl rfl (by intro _ w; go_simp; try rfl)) ?_
        refine Z.lb 1 rfl ?_
        refine Z.lnil ?_
        refine Z.only [1, 5, 7, 8, 42] rfl ?_
        refine Z.nthen ?_
        refine Z.cond rfl (fun h => absurd h (by simp)) (fun hc5 => ?_)
        refine Z.skip ?_
        refine Z.nthen ?_
        refine Z.seq ?_
        refine Z.seq ?_
        refine Z.region ?_
        refine Z.lb 1 rfl ?_
        refine Z.lnil ?_
        refine Z.only [1, 5, 7, 8, 9] rfl ?_
        refine Z.nthen ?_
        refine Z.block ?_
        refine Z.loopk (ι := Unit) [1, 7, 8] rfl (fun _ => [(5, [], .pointer none), (9, [], .int .i64 0)]) (fun _ wr => SX.St w [] wr []) (fun _ => 0) () (by refine ⟨?_, ?_, trivial⟩ <;> (first | rfl | (refine Z.lookv rfl ?_; simp; done) | (refine Z.lookv rfl ?_; simp; omega))) (hs.sub (List.nil_sublist _)) ?_
        clear hs
        rintro _ w9 hs
        refine Z.only [1, 5, 7, 8, 9] rfl ?_
        refine Z.seq ?_
        refine Z.seq ?_
        refine Z.region ?_
        refine Z.lb 2 rfl ?_
        refine Z.l rfl rfl (by rfl) (Z.keepS hs) (Z.Yd.lenS rfl Try.underlying49) ?_
        refine Z.lb 5 rfl ?_
        refine Z.lnil ?_
        refine Z.only [1, 5, 7, 8, 9, 50] rfl ?_
        refine Z.nthen ?_
        refine Z.cond rfl (fun h => absurd h (by simp)) (fun hc8 => ?_)
        refine Z.exit ?_
        refine Z.xthen ?_
        refine Z.xthen ?_
        refine Z.xblock ?_
        refine Z.nthen ?_
        refine Z.seq ?_
        refine Z.region ?_
        refine Z.lb 3 rfl ?_
        refine Z.yes (s := 76) (b := true) rfl ((by simp)) rfl ?_
        refine Z.ls rfl rfl rfl (by rfl) ?_
        refine Z.ls rfl rfl rfl (by rfl) ?_
        refine Z.ls rfl rfl rfl (by rfl) ?_
        refine Z.l rfl rfl (by rfl) (Z.keepS hs) (Z.Yd.pickT rfl rfl) ?_
        refine Z.lb 1 rfl ?_
        refine Z.yes (s := 81) (b := true) rfl ((by simp)) rfl ?_
        refine Z.le rfl (by exact ⟨rfl, trivial⟩) ?_
        refine Z.ZO.call rfl rfl (by rfl) rfl rfl Try.call8 rfl (works25 _) ?_
        rintro v14_8 w14_8 ⟨rfl, hy⟩
        replace hs := hs.call hy
        clear hy
        try simp only [List.cons_append, List.nil_append, List.append_nil] at hs
        refine Z.l rfl rfl (by rfl) (Z.keepS hs) (Z.Yd.pickT rfl rfl) ?_
        refine Z.lb 1 rfl ?_
        refine Z.lnil ?_
        refine Z.only [4] rfl ?_
        refine Z.nthen ?_
        refine Z.ret ?_
        -- ret#0
        refine Z.out1 (by exact ⟨rfl, trivial⟩) ?_
        first | exact ⟨_, rfl, rfl, hs⟩ | exact ⟨_, rfl, rfl, hs.sub (List.nil_sublist _)⟩
    · skip
      refine Z.enter Try.func5 rfl Try.ntmps5 rfl rfl ?_
      refine Z.seq ?_
      refine Z.region ?_
      refine Z.lb 1 rfl ?_
      refine Z.lnil ?_
      refine Z.only [0, 1] rfl ?_
      refine Z.nthen ?_
      refine Z.seq ?_
      refine Z.seq ?_
      refine Z.region ?_
      refine Z.lb 1 rfl ?_
      refine Z.l rfl rfl (by rfl) (Z.keepS hs) (Z.Yd.lenS rfl Try.underlying22) ?_
      refine Z.lb 2 rfl ?_
      refine Z.yes (s := 16) (b := false) rfl ((by simp; omega)) rfl ?_
      refine Z.lb 1 rfl ?_
      refine Z.yes (s := 16) (b := false) rfl rfl rfl ?_
      refine Z.le rfl (by exact ⟨rfl, trivial⟩) ?_
      refine Z.ZO.call rfl rfl (by rfl) rfl rfl Try.call19 rfl (bk_few C k d 20 l _ (hq.st hs) hk (by omega)) ?_
      rintro v1_5 w1_5 ⟨rfl, hy⟩
      replace hs := hs.call hy
      clear hy
      try simp only [List.cons_append, List.nil_append, List.append_nil] at hs
      refine Z.lb 1 rfl ?_
      refine Z.yes (s := 16) (b := false) rfl rfl rfl ?_
      refine Z.l rfl rfl (by rfl) (Z.keepS hs) (Z.Yd.pickF rfl rfl) ?_
      refine Z.lnil ?_
      refine Z.only [0, 1, 20] rfl ?_
      refine Z.nthen ?_
      refine Z.cond rfl (fun hc1 => ?_) (fun h => absurd h (by simp [hf]))
      refine Z.seq ?_
      refine Z.region ?_
      refine Z.le rfl trivial ?_
      refine Z.ZO.call rfl rfl (by rfl) rfl rfl Try.call8 rfl (works25 _) ?_
      rintro v2_0 w2_0 ⟨rfl, hy⟩
      replace hs := hs.call hy
      clear hy
      try simp only [List.cons_append, List.nil_append, List.append_nil] at hs
      refine Z.lb 1 rfl ?_
      refine Z.lnil ?_
      refine Z.only [4] rfl ?_
      refine Z.nthen ?_
      refine Z.ret ?_
      repeat (first | refine Z.rthen ?_ | refine Z.rblock ?_ | refine Z.rscope ?_)
      -- ret#0
      refine Z.out1 (by exact ⟨rfl, trivial⟩) ?_
      first | exact ⟨_, rfl, rfl, hs⟩ | exact ⟨_, rfl, rfl, hs.sub (List.nil_sublist _)⟩
  · skip
    refine Z.enter Try.func5 rfl Try.ntmps5 rfl rfl ?_
    refine Z.seq ?_
    refine Z.region ?_
    refine Z.lb 1 rfl ?_
    refine Z.lnil ?_
    refine Z.only [0, 1] rfl ?_
    refine Z.nthen ?_
    refine Z.seq ?_
    refine Z.seq ?_
    refine Z.region ?_
    refine Z.lb 1 rfl ?_
    refine Z.l rfl rfl (by rfl) (Z.keepS hs) (Z.Yd.lenS rfl Try.underlying22) ?_
    refine Z.lb 2 rfl ?_
    refine Z.yes (s := 16) (b := true) rfl ((by simp; omega)) rfl ?_
    refine Z.ls rfl rfl rfl (by rfl) ?_
    refine Z.ls rfl rfl rfl (by rfl) ?_
    refine Z.ls rfl rfl rfl (by rfl) ?_
    refine Z.l rfl rfl (by rfl) (Z.keepS hs) (Z.Yd.pickT rfl rfl) ?_
    refine Z.lnil ?_
    refine Z.only [0, 1, 20] rfl ?_
    refine Z.nthen ?_
    refine Z.cond rfl (fun hc1 => ?_) (fun h => absurd h (by simp))
    refine Z.seq ?_
    refine Z.region ?_
    refine Z.le rfl trivial ?_
    refine Z.ZO.call rfl rfl (by rfl) rfl rfl Try.call8 rfl (works25 _) ?_
    rintro v2_0 w2_0 ⟨rfl, hy⟩
    replace hs := hs.call hy
    clear hy
    try simp only [List.cons_append, List.nil_append, List.append_nil] at hs
    refine Z.lb 1 rfl ?_
    refine Z.lnil ?_
    refine Z.only [4] rfl ?_
    refine Z.nthen ?_
    refine Z.ret ?_
    repeat (first | refine Z.rthen ?_ | refine Z.rblock ?_ | refine Z.rscope ?_)
    -- ret#0
    refine Z.out1 (by exact ⟨rfl, trivial⟩) ?_
    first | exact ⟨_, rfl, rfl, hs⟩ | exact ⟨_, rfl, rfl, hs.sub (List.nil_sublist _)⟩
theorem rd_logical {W : World} {cs : List Value} (z : Rd Try.prog W 38 cs) : ∃ x : LgV, cs = x.cells ∧ True := by
  obtain ⟨hl, hf⟩ := Rd.field Try.underlying38 z
  have c5 : Try.prog.cellsOf 38 = 5 := by kernel_rfl
  have c1 : Try.prog.cellsOf 3 = 1 := by kernel_rfl
  rw [c5] at hl
  obtain ⟨x0, x1, x2, x3, x4, rfl⟩ := list5 hl
  obtain ⟨a, ha, -⟩ := Rd.int Try.underlying3 (hf 0 _ rfl)
  obtain ⟨b, hb, -⟩ := Rd.int Try.underlying3 (hf 1 _ rfl)
  obtain ⟨p, hp, -⟩ := Rd.int Try.underlying3 (hf 2 _ rfl)
  obtain ⟨q, hq, -⟩ := Rd.int Try.underlying3 (hf 3 _ rfl)
  obtain ⟨r, hr, -⟩ := Rd.int Try.underlying3 (hf 4 _ rfl)
  simp [c1] at ha hb hp hq hr
  subst ha hb hp hq hr
  exact ⟨⟨a, b, p, q, r⟩, rfl, trivial⟩
theorem rd_logicals {W : World} {A : Option Addr} {n c : Nat} (z : Rd Try.prog W 22 [.slice A n c]) : ∃ l : List LgV, l.length = n ∧ n ≤ c ∧ c ≤ maxLen ∧ Sl W A (l.flatMap LgV.cells) := by
  have c8 : Try.prog.cellsOf 38 = 5 := by kernel_rfl
  obtain ⟨xs, h1, h2, h3, -, h5⟩ := Rd.rows LgV.cells (fun _ => True) Try.underlying22 (by rw [c8]; decide) (fun r hr => rd_logical hr) (fun x => c8.symm) z
  exact ⟨xs, h1, h2, h3, h5⟩
theorem ints_flat (xs : List Int) : ints .i64 xs = xs.flatMap fun x : Int => [Value.int .i64 x] := by
  induction xs with
  | nil => rfl
  | cons x xs ih => rw [List.flatMap_cons, ← ih]; rfl
theorem rd_ints {W : World} {A : Option Addr} {n c : Nat} (z : Rd Try.prog W 28 [.slice A n c]) : ∃ l : List Int, l.length = n ∧ n ≤ c ∧ c ≤ maxLen ∧ Sl W A (ints .i64 l) := by
  have c8 : Try.prog.cellsOf 3 = 1 := by kernel_rfl
  obtain ⟨xs, h1, h2, h3, -, h5⟩ := Rd.rows (fun x : Int => [Value.int .i64 x]) (fun _ => True) Try.underlying28 (by rw [c8]; decide) (fun r hr => by
    obtain ⟨n, hn, -⟩ := Rd.int Try.underlying3 hr
    exact ⟨n, hn, trivial⟩) (fun x => c8.symm) z
  refine ⟨xs, h1, h2, h3, ?_⟩
  rw [ints_flat]
  exact h5
theorem rd_act25 {W : World} {cs : List Value} (z : Rd Try.prog W 54 cs) : ∃ x : AcV, cs = x.cells ∧ Sl W x.D (ints .i64 x.d) := by
  obtain ⟨hl, hf⟩ := Rd.field Try.underlying54 z
  have c3 : Try.prog.cellsOf 54 = 3 := by kernel_rfl
  have c1 : Try.prog.cellsOf 3 = 1 := by kernel_rfl
  have c2 : Try.prog.cellsOf 28 = 1 := by kernel_rfl
  rw [c3] at hl
  obtain ⟨x0, x1, x2, rfl⟩ := list3 hl
  obtain ⟨a, ha, -⟩ := Rd.int Try.underlying3 (hf 0 _ rfl)
  obtain ⟨b, hb, -⟩ := Rd.int Try.underlying3 (hf 1 _ rfl)
  have hp : Rd Try.prog W 28 (([x0, x1, x2].drop 2).take (Try.prog.cellsOf 28)) := hf 2 _ rfl
  simp [c1] at ha hb
  rw [c2] at hp
  have hp' : Rd Try.prog W 28 [x2] := by simpa using hp
  have hsl : ∃ A n c, x2 = .slice A n c := by
    rcases Rd.slice Try.underlying28 hp' with h1 | ⟨a, len, cap, rows, h1, -⟩
    · exact ⟨none, 0, 0, by simpa using h1⟩
    · exact ⟨some a, len, cap, by simpa using h1⟩
  obtain ⟨A, n, c, rfl⟩ := hsl
  obtain ⟨l, h1, -, -, h4⟩ := rd_ints hp'
  subst ha hb h1
  exact ⟨⟨a, b, A, c, l⟩, rfl, h4⟩
theorem rd_acts25 {W : World} {A : Option Addr} {n c : Nat} (z : Rd Try.prog W 49 [.slice A n c]) : ∃ l : List AcV, l.length = n ∧ n ≤ c ∧ (∀ x ∈ l, Sl W x.D (ints .i64 x.d)) ∧ Sl W A (l.flatMap AcV.cells) := by
  have c8 : Try.prog.cellsOf 54 = 3 := by kernel_rfl
  obtain ⟨xs, h1, h2, h3, h4, h5⟩ := Rd.rows AcV.cells (fun x => Sl W x.D (ints .i64 x.d)) Try.underlying49 (by rw [c8]; decide) (fun r hr => rd_act25 hr) (fun x => c8.symm) z
  exact ⟨xs, h1, h2, h4, h5⟩
theorem bucketPlays_rd (a0 : Option Addr) (len0 cap0 : Nat) (a1 : Option Addr) (len1 cap1 : Nat) (w : World) (z0 : Rd Try.prog w 22 (Value.slice a0 len0 cap0).cells.toList) (z1 : Rd Try.prog w 49 (Value.slice a1 len1 cap1).cells.toList) :
    Calls Try.prog 5 #[.slice a0 len0 cap0, .slice a1 len1 cap1] w fun e w' => e = .returned (.bool true) ∧ Below w.heap.size w w' := by
  obtain ⟨ls, h1, h2, -, h3⟩ := rd_logicals (show Rd Try.prog w 22 [.slice a0 len0 cap0] by simpa [Value.cells] using z0)
  obtain ⟨l, k1, k2, k3, k4⟩ := rd_acts25 (show Rd Try.prog w 49 [.slice a1 len1 cap1] by simpa [Value.cells] using z1)
  refine (bucketPlays_walk a0 a1 len0 cap0 len1 cap1 ls l w h3 h1 h2 k4 k1 k3).mono ?_
  rintro e w' ⟨v, rfl, rfl, h⟩
  exact ⟨rfl, h.below⟩
end Go.Proofs.Ythdhobnkclddhaa

/- Buckets: the iterator over the channels in the order of service. -/
namespace Go.Proofs.Ythdhobnkclddhaa
open Go.RowKit
set_option linter.unusedSimpArgs false
set_option linter.unusedVariables false
--newlaws

/-- the order of service, of what is a set of channels -/
def odN (ls : List LgV) : List Nat := if okSet ls then ordL ls else []
def odL (ls : List LgV) : List LgV := (odN ls).map fun i => ls[i]!
theorem odN_le (ls : List LgV) : (odN ls).length ≤ 10 := by
  unfold odN
  split
  · rename_i h; rw [ordL_len h]; exact h.1.2
  · simp
theorem odL_len (ls : List LgV) : (odL ls).length = (odN ls).length := by simp [odL]
theorem odN_lt (ls : List LgV) : ∀ i ∈ odN ls, i < ls.length := by
  unfold odN
  split
  · rename_i h; exact fun i hi => (mem_ordL h).1 hi
  · simp
theorem bk_order0 (w : World) : Calls Try.prog 12 #[.pointer none] w (SX.Ret fun v w' => ∃ g2, v = .func (.func 36) #[] #[.pointer (some ⟨g2, 0, none⟩)] ∧ SX.St w [] w' [SX.Ent.blk g2 22 #[.slice none 0 0]]) := by
  have hs := SX.St.start w
  refine Z.enter Try.func12 rfl Try.ntmps12 rfl rfl ?_
  refine Z.seq ?_
  refine Z.region ?_
  refine Z.lb 1 rfl ?_
  refine Z.lnil ?_
  refine Z.only [0] rfl ?_
  refine Z.nthen ?_
  refine Z.seq ?_
  refine Z.region ?_
  refine Z.le rfl trivial ?_
  refine Z.ZO.alloc rfl rfl (by rfl) Try.zeroValue22 rfl hs ?_
  clear hs; intro g3 w3 hs
  refine Z.lnil ?_
  refine Z.only [0, 3] rfl ?_
  refine Z.nthen ?_
  refine Z.seq ?_
  refine Z.seq ?_
  refine Z.region ?_
  refine Z.lb 1 rfl ?_
  refine Z.le rfl trivial ?_
  refine Z.ZO.call rfl rfl (by rfl) rfl rfl Try.call35 rfl (bk_none0 _) ?_
  rintro v2_1 w2_1 ⟨rfl, hy⟩
  replace hs := hs.call hy
  clear hy
  try simp only [List.cons_append, List.nil_append, List.append_nil] at hs
  refine Z.lb 1 rfl ?_
  refine Z.lnil ?_
  refine Z.only [0, 3, 8] rfl ?_
  refine Z.nthen ?_
  refine Z.cond rfl (fun h => absurd h (by simp)) (fun hc2 => ?_)
  refine Z.skip ?_
  refine Z.nthen ?_
  refine Z.seq ?_
  refine Z.region ?_
  refine Z.lb 2 rfl ?_
  refine Z.lnil ?_
  refine Z.only [2] rfl ?_
  refine Z.nthen ?_
  refine Z.ret ?_
  -- ret#0
  refine Z.out1 (by exact ⟨rfl, trivial⟩) ?_
  exact ⟨_, rfl, _, rfl, hs⟩
/-- what Order says of what New returned -/
def OrdC (p : Value) (ls : List LgV) (Ln : List SX.Ent) : Prop := ∀ w0 M W L, SX.St w0 M W L → (∀ e ∈ Ln, e ∈ L) → Calls Try.prog 12 #[p] W (SX.Ret fun v w' => ∃ g2 sv, v = .func (.func 36) #[] #[.pointer (some ⟨g2, 0, none⟩)] ∧ SX.St W [] w' [SX.Ent.blk g2 22 #[sv], SX.Ent.row sv 38 5 (odN ls).length ((odL ls).flatMap LgV.cells)])
theorem bk_newO (A : Option Addr) (n c : Nat) (ls : List LgV) (w : World) (hx : Sl w A (ls.flatMap LgV.cells)) (hl : ls.length = n) (hn : n ≤ 1000) (hc : n ≤ c) :
    Calls Try.prog 9 #[.slice A n c] w (SX.Ret fun v w' => ∃ p e Ln, v = .tuple #[p, .int .i64 e] ∧ SX.St w [] w' Ln ∧ OrdC p ls Ln) := by
  refine (bk_new A n c ls w hx hl hn hc).mono ?_
  rintro e w' ⟨v, h1, h2⟩
  refine ⟨v, h1, ?_⟩
  by_cases h : okSet ls
  · rw [if_pos h] at h2
    obtain ⟨g, sv, so, rfl, h3⟩ := h2
    refine ⟨_, _, _, rfl, h3, fun w0 M W L hs hL => ?_⟩
    refine (bk_order g (newB ls) W (hs.bkR hL) (newB_ok h)).mono ?_
    rintro e w' ⟨v, h4, g2, sv2, h5, h6⟩
    refine ⟨v, h4, g2, sv2, h5, ?_⟩
    have e1 : odN ls = ordL ls := if_pos h
    rw [show odL ls = seqL ls by unfold odL seqL; rw [e1], e1, ordL_len h]
    exact h6
  · rw [if_neg h] at h2
    obtain ⟨rfl, h3⟩ := h2
    refine ⟨_, _, _, rfl, h3, fun w0 M W L hs hL => ?_⟩
    refine (bk_order0 W).mono ?_
    rintro e w' ⟨v, h4, g2, h5, h6⟩
    refine ⟨v, h4, g2, .slice none 0 0, h5, ?_⟩
    have e1 : odN ls = [] := if_neg h
    rw [show odL ls = [] by unfold odL; rw [e1]; rfl, e1]
    exact (h6.nil 38 5).sel [1, 0] (by decide)
/-- the same of the document's -/
theorem rv_newO (A : Option Addr) (n c : Nat) (ls : List LgV) (w : World) (hx : Sl w A (ls.flatMap LgV.cells)) (hl : ls.length = n) :
    Calls Try.prog 10 #[.slice A n c] w (SX.Ret fun v w' => ∃ Ra Rb ka kb ca cb e Ln, v = .tuple #[.agg #[.slice Ra ka ca, .slice Rb kb cb, .int .i64 0], .int .i64 e] ∧ SX.St w [] w' Ln ∧ ∀ w0 M W L, SX.St w0 M W L → (∀ e ∈ Ln, e ∈ L) → Calls Try.prog 11 #[.agg #[.slice Ra ka ca, .slice Rb kb cb, .int .i64 0]] W (SX.Ret fun v w' => SX.St W [] w' [SX.Ent.row v 3 1 (odN ls).length (ints .i64 (natI (odN ls)))])) := by
  refine (rv_new A n c ls w hx hl).mono ?_
  rintro e w' ⟨v, h1, h2⟩
  refine ⟨v, h1, ?_⟩
  by_cases h : okSet ls
  · rw [if_pos h] at h2
    obtain ⟨Ra, Rb, ca, cb, rfl, h3⟩ := h2
    refine ⟨Ra, Rb, n, n, ca, cb, _, _, rfl, h3, fun w0 M W L hs hL => ?_⟩
    have e1 : odN ls = ordL ls := if_pos h
    rw [e1]
    exact rv_order Ra Rb n ca n cb 0 ls W (hs.slm (T := 38) (size := 5) (k := n) (c := ca) (m := n) (hL _ List.mem_cons_self)) hl (by have := h.1; omega)
  · rw [if_neg h] at h2
    obtain ⟨rfl, h3⟩ := h2
    refine ⟨none, none, 0, 0, 0, 0, _, _, rfl, h3, fun w0 M W L hs hL => ?_⟩
    have e1 : odN ls = [] := if_neg h
    rw [e1]
    have := rv_order none none 0 0 0 0 0 [] W sl_nil rfl (by omega)
    exact this
set_option maxHeartbeats 2000000 in
set_option maxRecDepth 100000 in
theorem bucketOrders_walk (A : Option Addr) (n c : Nat) (many : Int) (ls : List LgV) (w : World) (hx : Sl w A (ls.flatMap LgV.cells)) (hl : ls.length = n) (hc : n ≤ c) :
    Calls Try.prog 3 #[.slice A n c, .int .i64 many] w (SX.Ret fun v w' => v = .bool true ∧ SX.St w [] w' []) := by
  have hs := SX.St.start w
  by_cases h12 : n ≤ 12
  · skip
    refine Z.enterM Try.func3 rfl Try.ntmps3 rfl rfl ?_
    refine Z.seq ?_
    refine Z.region ?_
    refine Z.le rfl trivial ?_
    refine Z.ZO.box rfl rfl (by rfl) rfl rfl hs ?_
    clear hs; intro g2 w2 hs
    refine Z.le rfl trivial ?_
    refine Z.ZO.box rfl rfl (by rfl) rfl rfl hs ?_
    clear hs; intro g3 w3 hs
    refine Z.le rfl trivial ?_
    refine Z.ZO.alloc rfl rfl (by rfl) Try.zeroValue4 rfl hs ?_
    clear hs; intro g4 w4 hs
    refine Z.lnil ?_
    refine Z.only [2, 3, 4] rfl ?_
    refine Z.nthen ?_
    refine Z.seq ?_
    refine Z.seq ?_
    refine Z.region ?_
    refine Z.l rfl rfl (by rfl) (Z.keepS hs) (by first | exact Z.Yd.load rfl Try.isAgg22 (fun _ => Z.cellB (by first | ((repeat (first | exact List.mem_cons_self | refine List.mem_cons_of_mem _ ?_ | refine List.mem_append_right _ ?_)); done) | fail) rfl) | exact Z.Yd.load rfl Try.isAgg22 (fun _ => Z.cellO (by assumption) (by simp) (by assumption)) | fail "load 1.0") ?_
    refine Z.l rfl rfl (by rfl) (Z.keepS hs) (Z.Yd.lenS rfl Try.underlying22) ?_
    refine Z.lb 1 rfl ?_
    refine Z.lnil ?_
    refine Z.only [2, 3, 4, 17] rfl ?_
    refine Z.nthen ?_
    refine Z.cond rfl (fun h => absurd h (by simp; omega)) (fun hc1 => ?_)
    refine Z.skip ?_
    refine Z.nthen ?_
    refine Z.seq ?_
    refine Z.region ?_
    refine Z.l rfl rfl (by rfl) (Z.keepS hs) (by first | exact Z.Yd.load rfl Try.isAgg22 (fun _ => Z.cellB (by first | ((repeat (first | exact List.mem_cons_self | refine List.mem_cons_of_mem _ ?_ | refine List.mem_append_right _ ?_)); done) | fail) rfl) | exact Z.Yd.load rfl Try.isAgg22 (fun _ => Z.cellO (by assumption) (by simp) (by assumption)) | fail "load 3.0") ?_
    refine Z.le rfl trivial ?_
    refine Z.ZO.call rfl rfl (by rfl) rfl rfl Try.call9 rfl (bk_newO A n c ls _ (hx.st (hs.sub (List.nil_sublist _))) hl (by omega) hc) ?_
    rintro v3_1 w3_1 ⟨p, e1, Ln, rfl, hy, hO⟩
    replace hs := hs.call hy
    clear hy
    try simp only [List.cons_append, List.nil_append, List.append_nil] at hs
    replace hs := SX.St.rot (L1 := Ln) hs
    refine Z.lb 5 rfl ?_
    refine Z.lnil ?_
    refine Z.only [2, 3, 4, 5] rfl ?_
    refine Z.nthen ?_
    refine Z.seq ?_
    refine Z.region ?_
    refine Z.l rfl rfl (by rfl) (Z.keepS hs) (by first | exact Z.Yd.load rfl Try.isAgg22 (fun _ => Z.cellB (by first | ((repeat (first | exact List.mem_cons_self | refine List.mem_cons_of_mem _ ?_ | refine List.mem_append_right _ ?_)); done) | fail) rfl) | exact Z.Yd.load rfl Try.isAgg22 (fun _ => Z.cellO (by assumption) (by simp) (by assumption)) | fail "load 4.0") ?_
    refine Z.le rfl trivial ?_
    refine Z.ZO.call rfl rfl (by rfl) rfl rfl Try.call10 rfl (rv_newO A n c ls _ (hx.st (hs.sub (List.nil_sublist _))) hl) ?_
    rintro v4_1 w4_1 ⟨Ra, Rb, ka, kb, ca, cb, e2, Lr, rfl, hy, hR⟩
    replace hs := hs.call hy
    clear hy
    try simp only [List.cons_append, List.nil_append, List.append_nil] at hs
    replace hs : SX.St w [] _ ([SX.Ent.blk g4 _ _, SX.Ent.blk g3 _ _, SX.Ent.blk g2 _ _] ++ (Ln ++ Lr)) := SX.St.rot (L1 := Lr) hs
    refine Z.lb 3 rfl ?_
    refine Z.le rfl trivial ?_
    refine Z.ZO.alloc rfl rfl (by rfl) Try.zeroValue30 rfl hs ?_
    clear hs; intro g7 w7 hs
    refine Z.le rfl trivial ?_
    first | refine Z.ZO.storeA rfl rfl hs rfl rfl (by kernel_rfl) (by first | (simp [Value.oneCell']; done) | (refine Z.all_one ?_; assumption)) (by first | exact SX.at0 | exact SX.at1 | exact SX.at2 | exact SX.at3 | exact SX.at4 | exact SX.at5 | exact Z.at6 | exact Z.at7 | exact Z.at8 | exact Z.at9 | exact Z.at10 | exact Z.at11 | exact Z.at12) (by rfl) ?_ | refine Z.ZO.storeP rfl rfl hs rfl rfl (by kernel_rfl) (by first | (simp [Value.oneCell']; done) | (refine Z.all_one ?_; assumption)) (by first | exact SX.at0 | exact SX.at1 | exact SX.at2 | exact SX.at3 | exact SX.at4 | exact SX.at5 | exact Z.at6 | exact Z.at7 | exact Z.at8 | exact Z.at9 | exact Z.at10 | exact Z.at11 | exact Z.at12) (by first | decide | (simp; done) | (simp; omega)) ?_ | refine Z.ZO.storePR rfl rfl hs rfl rfl (by kernel_rfl) (by first | (simp [Value.oneCell']; done) | (refine Z.all_one ?_; assumption)) (by first | exact SX.at0 | exact SX.at1 | exact SX.at2 | exact SX.at3 | exact SX.at4 | exact SX.at5 | exact Z.at6 | exact Z.at7 | exact Z.at8 | exact Z.at9 | exact Z.at10 | exact Z.at11 | exact Z.at12) (by first | decide | (simp; done) | (simp; omega)) ?_
    clear hs; intro ws hs
    simp only [Nat.zero_add, Nat.add_zero, Nat.reduceAdd, Int.reduceToNat, Nat.reduceMul, List.set_cons_zero, List.set_cons_succ, List.setIfInBounds_toArray] at hs
    try simp only [Z.putL, Nat.zero_add] at hs
    refine Z.lb 1 rfl ?_
    refine Z.lnil ?_
    refine Z.only [2, 3, 4, 5, 7] rfl ?_
    refine Z.nthen ?_
    refine Z.seq ?_
    refine Z.region ?_
    refine Z.l rfl rfl (by rfl) (Z.keepS hs) (by first | exact Z.Yd.loadA _ rfl Try.isAgg30 (fun _ => Z.cellsB (by first | ((repeat (first | exact List.mem_cons_self | refine List.mem_cons_of_mem _ ?_ | refine List.mem_append_right _ ?_)); done) | fail)) (by exact Try.sizeOf30) | fail "load 5.0") ?_
    refine Z.le rfl trivial ?_
    refine Z.ZO.call rfl rfl (by rfl) rfl rfl Try.call11 rfl (hR _ _ _ _ hs (fun e he ↦ by simp [he])) ?_
    rintro v5_1 w5_1 hy
    replace hs := hs.call hy
    clear hy
    try simp only [List.cons_append, List.nil_append, List.append_nil] at hs
    obtain ⟨K, hK⟩ : ∃ K, (odN ls).length = K := ⟨_, rfl⟩
    have hK10 : K ≤ 10 := by rw [← hK]; exact odN_le ls
    rw [hK] at hs
    obtain ⟨Oa, oc, rfl, -, -, -⟩ := SX.row_slv hs (j := 0) rfl
    refine Z.le rfl trivial ?_
    refine Z.ZO.alloc rfl rfl (by rfl) Try.zeroValue28 rfl hs ?_
    clear hs; intro g9 w9 hs
    refine Z.le rfl trivial ?_
    first | refine Z.ZO.store rfl rfl hs Try.sizeOf28 rfl rfl rfl (by first | exact SX.at0 | exact SX.at1 | exact SX.at2 | exact SX.at3 | exact SX.at4 | exact SX.at5 | exact Z.at6 | exact Z.at7 | exact Z.at8 | exact Z.at9 | exact Z.at10 | exact Z.at11 | exact Z.at12) (by first | (simp; done) | (simp; omega)) ?_ | refine Z.ZO.storeR rfl rfl hs Try.sizeOf28 rfl rfl rfl (by first | exact SX.at0 | exact SX.at1 | exact SX.at2 | exact SX.at3 | exact SX.at4 | exact SX.at5 | exact Z.at6 | exact Z.at7 | exact Z.at8 | exact Z.at9 | exact Z.at10 | exact Z.at11 | exact Z.at12) (by first | omega | (simp [ints_length]; done) | (simp [ints_length]; omega)) ?_
    clear hs; intro ws hs
    simp only [Nat.zero_add, Nat.add_zero, Nat.reduceAdd, Int.reduceToNat, Nat.reduceMul, List.set_cons_zero, List.set_cons_succ, List.setIfInBounds_toArray] at hs
    refine Z.lnil ?_
    refine Z.only [2, 3, 4, 5, 9] rfl ?_
    refine Z.nthen ?_
    refine Z.seq ?_
    refine Z.region ?_
    replace hs : SX.St w [] _ ([SX.Ent.blk g9 28 #[.slice Oa K oc], SX.Ent.row (.slice Oa K oc) 3 1 K (ints .i64 (natI (odN ls))), SX.Ent.blk g4 4 #[.bool false], SX.Ent.blk g3 3 #[.int .i64 many], SX.Ent.blk g2 22 #[.slice A n c]] ++ (Ln ++ Lr)) := SX.St.selT (L1 := [_, _, _, _, _, _]) hs [0, 1, 3, 4, 5] (by decide)
    refine Z.l rfl rfl (by rfl) (Z.keepS hs) (Z.Yd.pure rfl) ?_
    refine Z.le rfl trivial ?_
    refine Z.ZO.call rfl rfl (by rfl) rfl rfl Try.call12 rfl (hO _ _ _ _ hs (fun e he ↦ by simp [he])) ?_
    rintro v6_1 w6_1 ⟨gg, sv, rfl, hy⟩
    replace hs := hs.call hy
    clear hy
    try simp only [List.cons_append, List.nil_append, List.append_nil] at hs
    refine Z.lb 1 rfl ?_
    refine Z.lnil ?_
    refine Z.only [2, 3, 4, 9, 10] rfl ?_
    refine Z.nthen ?_
    refine Z.seq ?_
    refine Z.seq ?_
    refine Z.region ?_
    refine Z.lb 1 rfl ?_
    refine Z.l rfl rfl (by rfl) (Z.keepS hs) (Z.Yd.fnNil rfl rfl Try.underlying35) ?_
    refine Z.lnil ?_
    refine Z.only [2, 3, 4, 9, 10, 34] rfl ?_
    refine Z.nthen ?_
    refine Z.cond rfl (fun h => absurd h (by simp)) (fun hc7 => ?_)
    refine Z.skip ?_
    refine Z.nthen ?_
    refine Z.seq ?_
    refine Z.seq ?_
    refine Z.region ?_
    refine Z.le rfl trivial ?_
    refine Z.ZO.alloc rfl rfl (by rfl) Try.zeroValue3 rfl hs ?_
    clear hs; intro g11 w11 hs
    refine Z.le rfl trivial ?_
    first | refine Z.ZO.store rfl rfl hs Try.sizeOf3 rfl rfl rfl (by first | exact SX.at0 | exact SX.at1 | exact SX.at2 | exact SX.at3 | exact SX.at4 | exact SX.at5 | exact Z.at6 | exact Z.at7 | exact Z.at8 | exact Z.at9 | exact Z.at10 | exact Z.at11 | exact Z.at12) (by first | (simp; done) | (simp; omega)) ?_ | refine Z.ZO.storeR rfl rfl hs Try.sizeOf3 rfl rfl rfl (by first | exact SX.at0 | exact SX.at1 | exact SX.at2 | exact SX.at3 | exact SX.at4 | exact SX.at5 | exact Z.at6 | exact Z.at7 | exact Z.at8 | exact Z.at9 | exact Z.at10 | exact Z.at11 | exact Z.at12) (by first | omega | (simp [ints_length]; done) | (simp [ints_length]; omega)) ?_
    clear hs; intro ws hs
    simp only [Nat.zero_add, Nat.add_zero, Nat.reduceAdd, Int.reduceToNat, Nat.reduceMul, List.set_cons_zero, List.set_cons_succ, List.setIfInBounds_toArray] at hs
    refine Z.lnil ?_
    refine Z.only [2, 3, 4, 9, 10, 11] rfl ?_
    rw [hK] at hs
    replace hs : SX.St w [] _ [SX.Ent.blk g11 _ _, SX.Ent.blk g9 _ _, SX.Ent.row _ _ _ _ _, SX.Ent.blk g4 _ _, SX.Ent.blk g3 _ _, SX.Ent.blk g2 _ _, SX.Ent.blk gg 22 #[sv], SX.Ent.row sv 38 5 K ((odL ls).flatMap LgV.cells)] := (SX.St.selT (L1 := [_, _, _, _, _, _, _, _]) hs [0, 3, 4, 5, 6, 7, 1, 2] (by decide)).sub (List.sublist_append_left _ _)
    refine Z.nthen ?_
    refine Z.block ?_
    refine Z.loopD (ι := Nat × Nat × List Nat) (fun x => x.2.2.map Z.mkD) [2, 3, 4, 9, 10] rfl (fun x => [(11, [], .pointer (some ⟨x.1, 0, none⟩))]) (fun x wr => x.2.1 ≤ 2 ∧ SX.St w [] wr (SX.Ent.blk x.1 3 #[.int .i64 (x.2.1 : Int)] :: SX.Ent.blk g9 28 #[.slice Oa K oc] :: SX.Ent.row (.slice Oa K oc) 3 1 K (ints .i64 (natI (odN ls))) :: SX.Ent.blk g4 4 #[.bool false] :: SX.Ent.blk g3 3 #[.int .i64 many] :: SX.Ent.blk g2 22 #[.slice A n c] :: SX.Ent.blk gg 22 #[sv] :: SX.Ent.row sv 38 5 K ((odL ls).flatMap LgV.cells) :: x.2.2.map Z.mkE)) (fun x => 2 - x.2.1) (g11, 0, []) rfl (by refine ⟨?_, trivial⟩ <;> (first | rfl | (refine Z.lookv rfl ?_; simp; done) | (refine Z.lookv rfl ?_; simp; omega))) ⟨by simp only; omega, hs⟩ ?_
    clear hs
    rintro ⟨g11, turn, ds⟩ w2 ⟨hb, hs⟩
    refine Z.only [2, 3, 4, 9, 10, 11] rfl ?_
    (try dsimp only at hs)
    dsimp only at hb
    refine Z.seq ?_
    refine Z.seq ?_
    refine Z.region ?_
    refine Z.l rfl rfl (by rfl) (Z.keepS hs) (by first | exact Z.Yd.load rfl Try.isAgg3 (fun _ => Z.cellB (by first | ((repeat (first | exact List.mem_cons_self | refine List.mem_cons_of_mem _ ?_ | refine List.mem_append_right _ ?_)); done) | fail) rfl) | exact Z.Yd.load rfl Try.isAgg3 (fun _ => Z.cellO (by assumption) (by simp) (by assumption)) | fail "load 10.0") ?_
    refine Z.lb 1 rfl ?_
    refine Z.lnil ?_
    refine Z.only [2, 3, 4, 9, 10, 11, 36] rfl ?_
    refine Z.nthen ?_
    refine Z.cond rfl (fun hc10 => ?_) (fun hc10 => ?_)
    · first
        | (exfalso; simp at hc10 <;> omega)
        | (
          (try simp at hc10)
          have ht2 : turn < 2 := by omega
          refine Z.skip ?_
          refine Z.nthen ?_
          refine Z.seq ?_
          refine Z.block ?_
          refine Z.seq ?_
          refine Z.region ?_
          refine Z.le rfl trivial ?_
          refine Z.ZO.alloc rfl rfl (by rfl) Try.zeroValue3 rfl hs ?_
          clear hs; intro g12 w12 hs
          refine Z.le rfl trivial ?_
          first | refine Z.ZO.store rfl rfl hs Try.sizeOf3 rfl rfl rfl (by first | exact SX.at0 | exact SX.at1 | exact SX.at2 | exact SX.at3 | exact SX.at4 | exact SX.at5 | exact Z.at6 | exact Z.at7 | exact Z.at8 | exact Z.at9 | exact Z.at10 | exact Z.at11 | exact Z.at12) (by first | (simp; done) | (simp; omega)) ?_ | refine Z.ZO.storeR rfl rfl hs Try.sizeOf3 rfl rfl rfl (by first | exact SX.at0 | exact SX.at1 | exact SX.at2 | exact SX.at3 | exact SX.at4 | exact SX.at5 | exact Z.at6 | exact Z.at7 | exact Z.at8 | exact Z.at9 | exact Z.at10 | exact Z.at11 | exact Z.at12) (by first | omega | (simp [ints_length]; done) | (simp [ints_length]; omega)) ?_
          clear hs; intro ws hs
          simp only [Nat.zero_add, Nat.add_zero, Nat.reduceAdd, Int.reduceToNat, Nat.reduceMul, List.set_cons_zero, List.set_cons_succ, List.setIfInBounds_toArray] at hs
          refine Z.lnil ?_
          refine Z.only [2, 3, 4, 9, 10, 11, 12] rfl ?_
          refine Z.nthen ?_
          refine Z.seq ?_
          refine Z.seq ?_
          refine Z.region ?_
          refine Z.lb 1 rfl ?_
          refine Z.lnil ?_
          refine Z.only [2, 3, 4, 9, 10, 11, 12, 39] rfl ?_
          refine Z.nthen ?_
          refine Z.block ?_
          refine Z.rangeFunc (ps := [40, 41]) (L0 := SX.Ent.blk g12 3 #[.int .i64 (0 : Int)] :: SX.Ent.blk g11 3 #[.int .i64 (turn : Int)] :: SX.Ent.blk g9 28 #[.slice Oa K oc] :: SX.Ent.row (.slice Oa K oc) 3 1 K (ints .i64 (natI (odN ls))) :: SX.Ent.blk g4 4 #[.bool false] :: SX.Ent.blk g3 3 #[.int .i64 many] :: SX.Ent.blk g2 22 #[.slice A n c] :: ds.map Z.mkE) (order_seq gg _ K sv (odL ls) (by rw [odL_len, hK]) (by omega)) rfl Try.call36 ((Z.toRange (C := [_, _, _, _, _, _, _]) (E0 := [_, _]) hs)) trivial (by rintro x args Lx ⟨rfl, rfl⟩; rfl) rfl (fun pre L => (turn = 0 → (pre = [] ∨ (pre.length : Int) < many)) ∧ L = SX.Ent.blk g12 3 #[.int .i64 (pre.length : Int)] :: SX.Ent.blk g11 3 #[.int .i64 (turn : Int)] :: SX.Ent.blk g9 28 #[.slice Oa K oc] :: SX.Ent.row (.slice Oa K oc) 3 1 K (ints .i64 (natI (odN ls))) :: SX.Ent.blk g4 4 #[.bool false] :: SX.Ent.blk g3 3 #[.int .i64 many] :: SX.Ent.blk g2 22 #[.slice A n c] :: ds.map Z.mkE) (fun q L => (turn = 0 ∧ q = .exit 2) ∧ ∃ N : Nat, (N : Int) = min (K : Int) (max 1 many) ∧ L = SX.Ent.blk g12 3 #[.int .i64 (N : Int)] :: SX.Ent.blk g11 3 #[.int .i64 (turn : Int)] :: SX.Ent.blk g9 28 #[.slice Oa K oc] :: SX.Ent.row (.slice Oa K oc) 3 1 K (ints .i64 (natI (odN ls))) :: SX.Ent.blk g4 4 #[.bool false] :: SX.Ent.blk g3 3 #[.int .i64 many] :: SX.Ent.blk g2 22 #[.slice A n c] :: ds.map Z.mkE) ⟨fun _ => .inl rfl, rfl⟩ ?_ ?_ ?_
          · clear hs
            rintro l2 Z2 pre x args W2 L2 Lx ⟨hi, rfl⟩ hpre ⟨rfl, rfl⟩ hs
            refine ⟨_, rfl, ?_⟩
            refine Z.seq ?_
            refine Z.region ?_
            obtain ⟨hpx, hxK⟩ := prefix_range hpre
            have hpl : pre.length = x := by rw [hpx, List.length_range]
            have hxl : x < (odN ls).length := by omega
            obtain ⟨i, hid⟩ : ∃ i, i = (odN ls)[x] := ⟨_, rfl⟩
            have hil : i < ls.length := by rw [hid]; exact odN_lt ls _ (List.getElem_mem _)
            have hol : (odL ls)[x]! = ls[i]! := by
              rw [getElem!_pos (odL ls) x (by rw [odL_len]; exact hxl)]
              simp [odL, hid]
            have hel : ls[i]? = some ls[i]! := by rw [getElem!_pos ls i hil]; exact List.getElem?_eq_getElem hil
            have hxa2 : (ints .i64 (natI (odN ls)))[0 + (pre.length : Int).toNat * 1]? = some (.int .i64 (i : Int)) := by
              rw [hpl, show 0 + (x : Int).toNat * 1 = x from by omega]
              unfold ints natI
              rw [List.getElem?_map, List.getElem?_map, List.getElem?_eq_getElem hxl, hid]
              rfl
            rw [hol]
            generalize ls[i]! = y at hel ⊢
            have hone := lg_one y
            simp only [List.cons_append, List.nil_append] at hs
            obtain ⟨gB, cB, eB, -, -⟩ := row_form (j := 3) hs rfl (by omega)
            cases eB
            obtain ⟨ba, oa, rfl, hba, hx2⟩ := Z.Sl.some hx (by rw [flat_len lg_len]; omega)
            refine Z.l rfl rfl (by rfl) (Z.keepS hs) (Z.Yd.pure rfl) ?_
            refine Z.lnil ?_
            refine Z.only [2, 3, 4, 9, 10, 11, 12, 13, 41] rfl ?_
            refine Z.nthen ?_
            refine Z.region ?_
            refine Z.le rfl trivial ?_
            refine Z.ZO.alloc rfl rfl (by rfl) Try.zeroValue38 rfl hs ?_
            clear hs; intro g14 w14 hs
            refine Z.le rfl trivial ?_
            first | refine Z.ZO.storeA rfl rfl hs rfl rfl (by kernel_rfl) (by first | (simp [Value.oneCell']; done) | (refine Z.all_one ?_; assumption)) (by first | exact SX.at0 | exact SX.at1 | exact SX.at2 | exact SX.at3 | exact SX.at4 | exact SX.at5 | exact Z.at6 | exact Z.at7 | exact Z.at8 | exact Z.at9 | exact Z.at10 | exact Z.at11 | exact Z.at12) (by rfl) ?_ | refine Z.ZO.storeP rfl rfl hs rfl rfl (by kernel_rfl) (by first | (simp [Value.oneCell']; done) | (refine Z.all_one ?_; assumption)) (by first | exact SX.at0 | exact SX.at1 | exact SX.at2 | exact SX.at3 | exact SX.at4 | exact SX.at5 | exact Z.at6 | exact Z.at7 | exact Z.at8 | exact Z.at9 | exact Z.at10 | exact Z.at11 | exact Z.at12) (by first | decide | (simp; done) | (simp; omega)) ?_ | refine Z.ZO.storePR rfl rfl hs rfl rfl (by kernel_rfl) (by first | (simp [Value.oneCell']; done) | (refine Z.all_one ?_; assumption)) (by first | exact SX.at0 | exact SX.at1 | exact SX.at2 | exact SX.at3 | exact SX.at4 | exact SX.at5 | exact Z.at6 | exact Z.at7 | exact Z.at8 | exact Z.at9 | exact Z.at10 | exact Z.at11 | exact Z.at12) (by first | decide | (simp; done) | (simp; omega)) ?_
            clear hs; intro ws hs
            simp only [Nat.zero_add, Nat.add_zero, Nat.reduceAdd, Int.reduceToNat, Nat.reduceMul, List.set_cons_zero, List.set_cons_succ, List.setIfInBounds_toArray] at hs
            try simp only [Z.putL, Nat.zero_add] at hs
            refine Z.lnil ?_
            refine Z.only [2, 3, 4, 9, 10, 11, 12, 13, 14] rfl ?_
            refine Z.nthen ?_
            refine Z.assigned (SX.Ent.blk g14 38 y.cells.toArray :: SX.Ent.blk g12 3 #[.int .i64 (pre.length : Int)] :: SX.Ent.blk g11 3 #[.int .i64 (turn : Int)] :: SX.Ent.blk g9 28 #[.slice _ K oc] :: SX.Ent.row (.slice _ K oc) 3 1 K (ints .i64 (natI (odN ls))) :: SX.Ent.blk g4 4 #[.bool false] :: SX.Ent.blk g3 3 #[.int .i64 many] :: SX.Ent.blk g2 22 #[.slice _ n c] :: ds.map Z.mkE) hs ?_
            clear hs
            intro Wb2 Zb2 hs
            refine Z.block ?_
            refine Z.seq ?_
            refine Z.seq ?_
            refine Z.drawK (fun _ => true) mixed hs ?_
            clear hs; intro wd16 hs
            refine Z.tb [0] (by kernel_rfl) rfl ⟨_, hs, by first | (simp; done) | exact fun e he => List.mem_append_right _ he⟩ rfl ?_
            refine Z.t 1 rfl rfl rfl (by rfl) (by kernel_rfl) ⟨_, hs, by first | (simp; done) | exact fun e he => List.mem_append_right _ he⟩ (by first | exact Z.Yd.load rfl Try.isAgg3 (fun _ => Z.cellB (by first | ((repeat (first | exact List.mem_cons_self | refine List.mem_cons_of_mem _ ?_ | refine List.mem_append_right _ ?_)); done) | fail) rfl) | exact Z.Yd.load rfl Try.isAgg3 (fun _ => Z.cellO (by assumption) (by simp) (by assumption)) | fail "load 16.1") ?_
            refine Z.tb [2, 3] (by kernel_rfl) rfl ⟨_, hs, by first | (simp; done) | exact fun e he => List.mem_append_right _ he⟩ rfl ?_
            refine Z.yes (s := 45) (b := false) rfl (by simp; omega) rfl ?_
            refine Z.t 4 rfl rfl rfl (by rfl) (by kernel_rfl) ⟨_, hs, by first | (simp; done) | exact fun e he => List.mem_append_right _ he⟩ (by first | exact Z.Yd.load rfl Try.isAgg3 (fun _ => Z.cellB (by first | ((repeat (first | exact List.mem_cons_self | refine List.mem_cons_of_mem _ ?_ | refine List.mem_append_right _ ?_)); done) | fail) rfl) | exact Z.Yd.load rfl Try.isAgg3 (fun _ => Z.cellO (by assumption) (by simp) (by assumption)) | fail "load 16.4") ?_
            refine Z.t 5 rfl rfl rfl (by rfl) (by kernel_rfl) ⟨_, hs, by first | (simp; done) | exact fun e he => List.mem_append_right _ he⟩ (by first | exact Z.Yd.load rfl Try.isAgg28 (fun _ => Z.cellB (by first | ((repeat (first | exact List.mem_cons_self | refine List.mem_cons_of_mem _ ?_ | refine List.mem_append_right _ ?_)); done) | fail) rfl) | exact Z.Yd.load rfl Try.isAgg28 (fun _ => Z.cellO (by assumption) (by simp) (by assumption)) | fail "load 16.5") ?_
            refine Z.t 6 rfl rfl rfl (by rfl) (by kernel_rfl) ⟨_, hs, by first | (simp; done) | exact fun e he => List.mem_append_right _ he⟩ (Z.Yd.lenS rfl Try.underlying28) ?_
            refine Z.tb [7, 8, 9] (by kernel_rfl) rfl ⟨_, hs, by first | (simp; done) | exact fun e he => List.mem_append_right _ he⟩ rfl ?_
            refine Z.yes (s := 51) (b := false) rfl (by simp; omega) rfl ?_
            refine Z.t 10 rfl rfl rfl (by rfl) (by kernel_rfl) ⟨_, hs, by first | (simp; done) | exact fun e he => List.mem_append_right _ he⟩ (Z.Yd.loadA _ rfl Try.isAgg38 (fun _ => Z.cellsB (cs := LgV.cells y) (by first | ((repeat (first | exact List.mem_cons_self | refine List.mem_cons_of_mem _ ?_ | refine List.mem_append_right _ ?_)); done) | fail)) (by exact Try.sizeOf38)) ?_
            refine Z.t 11 rfl rfl rfl (by rfl) (by kernel_rfl) ⟨_, hs, by first | (simp; done) | exact fun e he => List.mem_append_right _ he⟩ (by first | exact Z.Yd.load rfl Try.isAgg22 (fun _ => Z.cellB (by first | ((repeat (first | exact List.mem_cons_self | refine List.mem_cons_of_mem _ ?_ | refine List.mem_append_right _ ?_)); done) | fail) rfl) | exact Z.Yd.load rfl Try.isAgg22 (fun _ => Z.cellO (by assumption) (by simp) (by assumption)) | fail "load 16.11") ?_
            refine Z.t 12 rfl rfl rfl (by rfl) (by kernel_rfl) ⟨_, hs, by first | (simp; done) | exact fun e he => List.mem_append_right _ he⟩ (by first | exact Z.Yd.load rfl Try.isAgg28 (fun _ => Z.cellB (by first | ((repeat (first | exact List.mem_cons_self | refine List.mem_cons_of_mem _ ?_ | refine List.mem_append_right _ ?_)); done) | fail) rfl) | exact Z.Yd.load rfl Try.isAgg28 (fun _ => Z.cellO (by assumption) (by simp) (by assumption)) | fail "load 16.12") ?_
            refine Z.t 13 rfl rfl rfl (by rfl) (by kernel_rfl) ⟨_, hs, by first | (simp; done) | exact fun e he => List.mem_append_right _ he⟩ (by first | exact Z.Yd.load rfl Try.isAgg3 (fun _ => Z.cellB (by first | ((repeat (first | exact List.mem_cons_self | refine List.mem_cons_of_mem _ ?_ | refine List.mem_append_right _ ?_)); done) | fail) rfl) | exact Z.Yd.load rfl Try.isAgg3 (fun _ => Z.cellO (by assumption) (by simp) (by assumption)) | fail "load 16.13") ?_
            refine Z.t 14 rfl rfl rfl (by rfl) (by kernel_rfl) ⟨_, hs, by first | (simp; done) | exact fun e he => List.mem_append_right _ he⟩ (Z.Yd.elem rfl rfl Try.underlying28 Try.sizeOf3 (fun hG => ⟨(by first | omega | (have hG' := Z.gh rfl hG; simp at hG'; omega)), (by first | omega | (have hG' := Z.gh rfl hG; simp at hG'; omega))⟩)) ?_
            refine Z.t 15 rfl rfl rfl (by rfl) (by kernel_rfl) ⟨_, hs, by first | (simp; done) | exact fun e he => List.mem_append_right _ he⟩ (Z.Yd.load rfl Try.isAgg3 (fun _ => Z.cellR (by first | ((repeat (first | exact List.mem_cons_self | refine List.mem_cons_of_mem _ ?_ | refine List.mem_append_right _ ?_)); done) | fail) hxa2)) ?_
            refine Z.t 16 rfl rfl rfl (by rfl) (by kernel_rfl) ⟨_, hs, by first | (simp; done) | exact fun e he => List.mem_append_right _ he⟩ (Z.Yd.elem rfl rfl Try.underlying22 Try.sizeOf38 (fun hG => ⟨(by first | omega | (have hG' := Z.gh rfl hG; simp at hG'; omega)), (by first | omega | (have hG' := Z.gh rfl hG; simp at hG'; omega))⟩)) ?_
            refine Z.t 17 rfl rfl rfl (by rfl) (by kernel_rfl) ⟨_, hs, by first | (simp; done) | exact fun e he => List.mem_append_right _ he⟩ (Z.Yd.loadA _ rfl Try.isAgg38 (fun _ W hK j u hu => Z.cellXq (enc := LgV.cells) hx2.sx lg_len hel hu W hK) (by exact Try.sizeOf38)) ?_
            refine Z.t 18 rfl rfl rfl (by rfl) (by kernel_rfl) ⟨_, hs, by first | (simp; done) | exact fun e he => List.mem_append_right _ he⟩ (Z.Yd.neA (.st (.fc 0 1 (.i) (.fc 1 1 (.i) (.fc 2 1 (.i) (.fc 3 1 (.i) (.fc 4 1 (.i) (.fn))))))) rfl rfl rfl rfl (by kernel_rfl) (by kernel_rfl) rfl) ?_
            refine Z.tb [19] (by kernel_rfl) rfl ⟨_, hs, by first | (simp; done) | exact fun e he => List.mem_append_right _ he⟩ rfl ?_
            refine Z.td (by rfl) (by kernel_rfl) ?_
            refine Z.only [2, 3, 4, 9, 10, 11, 12, 61] rfl ?_
            refine Z.nthen ?_
            refine Z.cond rfl (fun h => absurd h (by simp)) (fun hc16 => ?_)
            refine Z.skip ?_
            refine Z.nthen ?_
            refine Z.seq ?_
            refine Z.region ?_
            refine Z.l rfl rfl (by rfl) (Z.keepS hs) (by first | exact Z.Yd.load rfl Try.isAgg3 (fun _ => Z.cellB (by first | ((repeat (first | exact List.mem_cons_self | refine List.mem_cons_of_mem _ ?_ | refine List.mem_append_right _ ?_)); done) | fail) rfl) | exact Z.Yd.load rfl Try.isAgg3 (fun _ => Z.cellO (by assumption) (by simp) (by assumption)) | fail "load 18.0") ?_
            refine Z.l rfl rfl (by rfl) (Z.keepS hs) (Z.Yd.add rfl rfl (fun hG => Z.wi64 (by first | omega | (have hG' := Z.gh rfl hG; simp at hG'; omega)))) ?_
            refine Z.le rfl trivial ?_
            first | refine Z.ZO.store rfl rfl hs Try.sizeOf3 rfl rfl rfl (by first | exact SX.at0 | exact SX.at1 | exact SX.at2 | exact SX.at3 | exact SX.at4 | exact SX.at5 | exact Z.at6 | exact Z.at7 | exact Z.at8 | exact Z.at9 | exact Z.at10 | exact Z.at11 | exact Z.at12) (by first | (simp; done) | (simp; omega)) ?_ | refine Z.ZO.storeR rfl rfl hs Try.sizeOf3 rfl rfl rfl (by first | exact SX.at0 | exact SX.at1 | exact SX.at2 | exact SX.at3 | exact SX.at4 | exact SX.at5 | exact Z.at6 | exact Z.at7 | exact Z.at8 | exact Z.at9 | exact Z.at10 | exact Z.at11 | exact Z.at12) (by first | omega | (simp [ints_length]; done) | (simp [ints_length]; omega)) ?_
            clear hs; intro ws hs
            simp only [Nat.zero_add, Nat.add_zero, Nat.reduceAdd, Int.reduceToNat, Nat.reduceMul, List.set_cons_zero, List.set_cons_succ, List.setIfInBounds_toArray] at hs
            refine Z.lnil ?_
            refine Z.only [2, 3, 4, 9, 10, 11, 12] rfl ?_
            refine Z.nthen ?_
            refine Z.seq ?_
            refine Z.region ?_
            refine Z.l rfl rfl (by rfl) (Z.keepS hs) (by first | exact Z.Yd.load rfl Try.isAgg3 (fun _ => Z.cellB (by first | ((repeat (first | exact List.mem_cons_self | refine List.mem_cons_of_mem _ ?_ | refine List.mem_append_right _ ?_)); done) | fail) rfl) | exact Z.Yd.load rfl Try.isAgg3 (fun _ => Z.cellO (by assumption) (by simp) (by assumption)) | fail "load 19.0") ?_
            refine Z.lb 2 rfl ?_
            refine Z.split (s := 66) rfl (fun hsp66 => ?_) (fun hsp66 => ?_)
            · first
                | (exfalso; simp at hsp66 <;> omega)
                | (
                  refine Z.yes (s := 66) (b := true) rfl hsp66 rfl ?_
                  (try simp at hsp66)
                  refine Z.l rfl rfl (by rfl) (Z.keepS hs) (by first | exact Z.Yd.load rfl Try.isAgg3 (fun _ => Z.cellB (by first | ((repeat (first | exact List.mem_cons_self | refine List.mem_cons_of_mem _ ?_ | refine List.mem_append_right _ ?_)); done) | fail) rfl) | exact Z.Yd.load rfl Try.isAgg3 (fun _ => Z.cellO (by assumption) (by simp) (by assumption)) | fail "load 19.3") ?_
                  refine Z.l rfl rfl (by rfl) (Z.keepS hs) (by first | exact Z.Yd.load rfl Try.isAgg3 (fun _ => Z.cellB (by first | ((repeat (first | exact List.mem_cons_self | refine List.mem_cons_of_mem _ ?_ | refine List.mem_append_right _ ?_)); done) | fail) rfl) | exact Z.Yd.load rfl Try.isAgg3 (fun _ => Z.cellO (by assumption) (by simp) (by assumption)) | fail "load 19.4") ?_
                  refine Z.lb 1 rfl ?_
                  refine Z.yes (s := 66) (b := true) rfl rfl rfl ?_
                  refine Z.l rfl rfl (by rfl) (Z.keepS hs) (Z.Yd.pickT rfl rfl) ?_
                  refine Z.lnil ?_
                  refine Z.only [2, 3, 4, 9, 10, 11, 12, 70] rfl ?_
                  refine Z.nthen ?_
                  refine Z.cond rfl (fun hc19 => ?_) (fun hc19 => ?_)
                  · first
                      | (exfalso; simp at hc19 <;> omega)
                      | (
                        (try simp at hc19)
                        refine Z.exit ?_
                        refine Z.xblockn rfl ?_
                        refine Z.rexit _ ⟨⟨by omega, rfl⟩, pre.length + 1, by rcases hi (by omega) with h | h <;> simp_all <;> omega, rfl⟩ hs.tl
                        )
                  · first
                      | (exfalso; simp at hc19 <;> omega)
                      | (
                        (try simp at hc19)
                        refine Z.skip ?_
                        refine Z.nblock ?_
                        have e : ((pre ++ [x]).length : Int) = pre.length + 1 := by simp
                        refine Z.rnorm _ ⟨fun h => .inr (by rw [e]; omega), by rw [e]⟩ hs.tl
                        )
                  )
            · first
                | (exfalso; simp at hsp66 <;> omega)
                | (
                  refine Z.yes (s := 66) (b := false) rfl hsp66 rfl ?_
                  (try simp at hsp66)
                  refine Z.ls rfl rfl rfl (by rfl) ?_
                  refine Z.ls rfl rfl rfl (by rfl) ?_
                  refine Z.ls rfl rfl rfl (by rfl) ?_
                  refine Z.l rfl rfl (by rfl) (Z.keepS hs) (Z.Yd.pickF rfl rfl) ?_
                  refine Z.lnil ?_
                  refine Z.only [2, 3, 4, 9, 10, 11, 12, 70] rfl ?_
                  refine Z.nthen ?_
                  refine Z.cond rfl (fun hc19 => ?_) (fun hc19 => ?_)
                  · first
                      | (exfalso; simp at hc19 <;> omega)
                      | (
                        (try simp at hc19)
                        refine Z.exit ?_
                        refine Z.xblockn rfl ?_
                        refine Z.rexit _ ⟨⟨by omega, rfl⟩, pre.length + 1, by rcases hi (by omega) with h | h <;> simp_all <;> omega, rfl⟩ hs.tl
                        )
                  · first
                      | (exfalso; simp at hc19 <;> omega)
                      | (
                        (try simp at hc19)
                        refine Z.skip ?_
                        refine Z.nblock ?_
                        have e : ((pre ++ [x]).length : Int) = pre.length + 1 := by simp
                        refine Z.rnorm _ ⟨fun h => .inr (by rw [e]; omega), by rw [e]⟩ hs.tl
                        )
                  )
          · clear hs
            rintro Dd W2 L2 hi hs
            obtain ⟨hi, rfl⟩ := hi
            have hrl : (List.range K).length = K := List.length_range
            rw [hrl] at hs hi
            have hn0 : turn = 0 → (K : Int) = min (K : Int) (max 1 many) := fun h => by
              rcases hi h with h1 | h1
              · rw [h1] at hrl; simp at hrl; omega
              · omega
            replace hs := Z.fromRange (C := [_, _, _, _, _, _, _]) (E0 := [_, _]) hs
            refine Z.nblock ?_
            refine Z.nthen ?_
            refine Z.seq ?_
            refine Z.region ?_
            refine Z.l rfl rfl (by rfl) (Z.keepS hs) (by first | exact Z.Yd.load rfl Try.isAgg3 (fun _ => Z.cellB (by first | ((repeat (first | exact List.mem_cons_self | refine List.mem_cons_of_mem _ ?_ | refine List.mem_append_right _ ?_)); done) | fail) rfl) | exact Z.Yd.load rfl Try.isAgg3 (fun _ => Z.cellO (by assumption) (by simp) (by assumption)) | fail "load 20.0") ?_
            refine Z.lb 2 rfl ?_
            refine Z.split (s := 73) rfl (fun hsp73 => ?_) (fun hsp73 => ?_)
            · first
                | (exfalso; simp at hsp73 <;> omega)
                | (
                  refine Z.yes (s := 73) (b := true) rfl hsp73 rfl ?_
                  (try simp at hsp73)
                  refine Z.l rfl rfl (by rfl) (Z.keepS hs) (by first | exact Z.Yd.load rfl Try.isAgg3 (fun _ => Z.cellB (by first | ((repeat (first | exact List.mem_cons_self | refine List.mem_cons_of_mem _ ?_ | refine List.mem_append_right _ ?_)); done) | fail) rfl) | exact Z.Yd.load rfl Try.isAgg3 (fun _ => Z.cellO (by assumption) (by simp) (by assumption)) | fail "load 20.3") ?_
                  refine Z.l rfl rfl (by rfl) (Z.keepS hs) (by first | exact Z.Yd.load rfl Try.isAgg28 (fun _ => Z.cellB (by first | ((repeat (first | exact List.mem_cons_self | refine List.mem_cons_of_mem _ ?_ | refine List.mem_append_right _ ?_)); done) | fail) rfl) | exact Z.Yd.load rfl Try.isAgg28 (fun _ => Z.cellO (by assumption) (by simp) (by assumption)) | fail "load 20.4") ?_
                  refine Z.l rfl rfl (by rfl) (Z.keepS hs) (Z.Yd.lenS rfl Try.underlying28) ?_
                  refine Z.l rfl rfl (by rfl) (Z.keepS hs) (by first | exact Z.Yd.load rfl Try.isAgg3 (fun _ => Z.cellB (by first | ((repeat (first | exact List.mem_cons_self | refine List.mem_cons_of_mem _ ?_ | refine List.mem_append_right _ ?_)); done) | fail) rfl) | exact Z.Yd.load rfl Try.isAgg3 (fun _ => Z.cellO (by assumption) (by simp) (by assumption)) | fail "load 20.6") ?_
                  refine Z.l rfl rfl (by rfl) (Z.keepS hs) (Z.Yd.max rfl rfl) ?_
                  refine Z.l rfl rfl (by rfl) (Z.keepS hs) (Z.Yd.min rfl rfl) ?_
                  refine Z.lb 1 rfl ?_
                  refine Z.yes (s := 73) (b := true) rfl rfl rfl ?_
                  refine Z.l rfl rfl (by rfl) (Z.keepS hs) (Z.Yd.pickT rfl rfl) ?_
                  refine Z.lb 1 rfl ?_
                  refine Z.yes (s := 82) (b := false) rfl ((by first | (simp; done) | (have h := hn0 (by omega); simp [← h]; done) | (exfalso; omega))) rfl ?_
                  refine Z.l rfl rfl (by rfl) (Z.keepS hs) (by first | exact Z.Yd.load rfl Try.isAgg3 (fun _ => Z.cellB (by first | ((repeat (first | exact List.mem_cons_self | refine List.mem_cons_of_mem _ ?_ | refine List.mem_append_right _ ?_)); done) | fail) rfl) | exact Z.Yd.load rfl Try.isAgg3 (fun _ => Z.cellO (by assumption) (by simp) (by assumption)) | fail "load 20.12") ?_
                  refine Z.lb 2 rfl ?_
                  refine Z.yes (s := 82) (b := false) rfl rfl rfl ?_
                  refine Z.split (s := 85) rfl (fun hsp85 => ?_) (fun hsp85 => ?_)
                  · first
                      | (exfalso; simp at hsp85 <;> omega)
                      | (
                        refine Z.yes (s := 85) (b := true) rfl hsp85 rfl ?_
                        (try simp at hsp85)
                        refine Z.l rfl rfl (by rfl) (Z.keepS hs) (by first | exact Z.Yd.load rfl Try.isAgg3 (fun _ => Z.cellB (by first | ((repeat (first | exact List.mem_cons_self | refine List.mem_cons_of_mem _ ?_ | refine List.mem_append_right _ ?_)); done) | fail) rfl) | exact Z.Yd.load rfl Try.isAgg3 (fun _ => Z.cellO (by assumption) (by simp) (by assumption)) | fail "load 20.15") ?_
                        refine Z.l rfl rfl (by rfl) (Z.keepS hs) (by first | exact Z.Yd.load rfl Try.isAgg28 (fun _ => Z.cellB (by first | ((repeat (first | exact List.mem_cons_self | refine List.mem_cons_of_mem _ ?_ | refine List.mem_append_right _ ?_)); done) | fail) rfl) | exact Z.Yd.load rfl Try.isAgg28 (fun _ => Z.cellO (by assumption) (by simp) (by assumption)) | fail "load 20.16") ?_
                        refine Z.l rfl rfl (by rfl) (Z.keepS hs) (Z.Yd.lenS rfl Try.underlying28) ?_
                        refine Z.lb 1 rfl ?_
                        refine Z.yes (s := 85) (b := true) rfl rfl rfl ?_
                        refine Z.l rfl rfl (by rfl) (Z.keepS hs) (Z.Yd.pickT rfl rfl) ?_
                        refine Z.yes (s := 82) (b := false) rfl rfl rfl ?_
                        refine Z.l rfl rfl (by rfl) (Z.keepS hs) (Z.Yd.pickF rfl rfl) ?_
                        refine Z.lnil ?_
                        refine Z.only [2, 3, 4, 9, 10, 11, 91] rfl ?_
                        refine Z.nthen ?_
                        refine Z.cond rfl (fun h => absurd h (by first | (simp; done) | (have h := hn0 (by omega); simp [← h]; done) | (exfalso; omega))) (fun hc20 => ?_)
                        refine Z.skip ?_
                        refine Z.nblock ?_
                        refine Z.nthen ?_
                        refine Z.seq ?_
                        refine Z.seq ?_
                        refine Z.region ?_
                        refine Z.l rfl rfl (by rfl) (Z.keepS hs) (by first | exact Z.Yd.load rfl Try.isAgg3 (fun _ => Z.cellB (by first | ((repeat (first | exact List.mem_cons_self | refine List.mem_cons_of_mem _ ?_ | refine List.mem_append_right _ ?_)); done) | fail) rfl) | exact Z.Yd.load rfl Try.isAgg3 (fun _ => Z.cellO (by assumption) (by simp) (by assumption)) | fail "load 22.0") ?_
                        refine Z.lnil ?_
                        refine Z.only [2, 3, 4, 9, 10, 92] rfl ?_
                        refine Z.nthen ?_
                        refine Z.region ?_
                        refine Z.le rfl trivial ?_
                        refine Z.ZO.alloc rfl rfl (by rfl) Try.zeroValue3 rfl hs ?_
                        clear hs; intro g11 w11 hs
                        refine Z.le rfl trivial ?_
                        first | refine Z.ZO.store rfl rfl hs Try.sizeOf3 rfl rfl rfl (by first | exact SX.at0 | exact SX.at1 | exact SX.at2 | exact SX.at3 | exact SX.at4 | exact SX.at5 | exact Z.at6 | exact Z.at7 | exact Z.at8 | exact Z.at9 | exact Z.at10 | exact Z.at11 | exact Z.at12) (by first | (simp; done) | (simp; omega)) ?_ | refine Z.ZO.storeR rfl rfl hs Try.sizeOf3 rfl rfl rfl (by first | exact SX.at0 | exact SX.at1 | exact SX.at2 | exact SX.at3 | exact SX.at4 | exact SX.at5 | exact Z.at6 | exact Z.at7 | exact Z.at8 | exact Z.at9 | exact Z.at10 | exact Z.at11 | exact Z.at12) (by first | omega | (simp [ints_length]; done) | (simp [ints_length]; omega)) ?_
                        clear hs; intro ws hs
                        simp only [Nat.zero_add, Nat.add_zero, Nat.reduceAdd, Int.reduceToNat, Nat.reduceMul, List.set_cons_zero, List.set_cons_succ, List.setIfInBounds_toArray] at hs
                        refine Z.lnil ?_
                        refine Z.only [2, 3, 4, 9, 10, 11] rfl ?_
                        refine Z.nthen ?_
                        refine Z.region ?_
                        refine Z.l rfl rfl (by rfl) (Z.keepS hs) (by first | exact Z.Yd.load rfl Try.isAgg3 (fun _ => Z.cellB (by first | ((repeat (first | exact List.mem_cons_self | refine List.mem_cons_of_mem _ ?_ | refine List.mem_append_right _ ?_)); done) | fail) rfl) | exact Z.Yd.load rfl Try.isAgg3 (fun _ => Z.cellO (by assumption) (by simp) (by assumption)) | fail "load 11.0") ?_
                        refine Z.l rfl rfl (by rfl) (Z.keepS hs) (Z.Yd.add rfl rfl (fun hG => Z.wi64 (by first | omega | (have hG' := Z.gh rfl hG; simp at hG'; omega)))) ?_
                        refine Z.le rfl trivial ?_
                        first | refine Z.ZO.store rfl rfl hs Try.sizeOf3 rfl rfl rfl (by first | exact SX.at0 | exact SX.at1 | exact SX.at2 | exact SX.at3 | exact SX.at4 | exact SX.at5 | exact Z.at6 | exact Z.at7 | exact Z.at8 | exact Z.at9 | exact Z.at10 | exact Z.at11 | exact Z.at12) (by first | (simp; done) | (simp; omega)) ?_ | refine Z.ZO.storeR rfl rfl hs Try.sizeOf3 rfl rfl rfl (by first | exact SX.at0 | exact SX.at1 | exact SX.at2 | exact SX.at3 | exact SX.at4 | exact SX.at5 | exact Z.at6 | exact Z.at7 | exact Z.at8 | exact Z.at9 | exact Z.at10 | exact Z.at11 | exact Z.at12) (by first | omega | (simp [ints_length]; done) | (simp [ints_length]; omega)) ?_
                        clear hs; intro ws hs
                        simp only [Nat.zero_add, Nat.add_zero, Nat.reduceAdd, Int.reduceToNat, Nat.reduceMul, List.set_cons_zero, List.set_cons_succ, List.setIfInBounds_toArray] at hs
                        refine Z.lnil ?_
                        refine Z.only [2, 3, 4, 9, 10, 11] rfl ?_
                        refine Z.nthen ?_
                        exact Z.againD (g11, turn + 1, Dd :: ds) rfl (by refine ⟨?_, ?_, ?_, ?_, ?_, ?_, trivial⟩ <;> (first | rfl | (refine Z.lookv rfl ?_; simp; done) | (refine Z.lookv rfl ?_; simp; omega))) ⟨by simp only; omega, hs.sub ((((List.Sublist.refl _).cons _).cons _).cons_cons _)⟩ (by simp only; omega)
                        )
                  · first
                      | (exfalso; simp at hsp85 <;> omega)
                      | (
                        refine Z.yes (s := 85) (b := false) rfl hsp85 rfl ?_
                        (try simp at hsp85)
                        refine Z.ls rfl rfl rfl (by rfl) ?_
                        refine Z.ls rfl rfl rfl (by rfl) ?_
                        refine Z.ls rfl rfl rfl (by rfl) ?_
                        refine Z.ls rfl rfl rfl (by rfl) ?_
                        refine Z.l rfl rfl (by rfl) (Z.keepS hs) (Z.Yd.pickF rfl rfl) ?_
                        refine Z.yes (s := 82) (b := false) rfl rfl rfl ?_
                        refine Z.l rfl rfl (by rfl) (Z.keepS hs) (Z.Yd.pickF rfl rfl) ?_
                        refine Z.lnil ?_
                        refine Z.only [2, 3, 4, 9, 10, 11, 91] rfl ?_
                        refine Z.nthen ?_
                        refine Z.cond rfl (fun h => absurd h (by first | (simp; done) | (have h := hn0 (by omega); simp [← h]; done) | (exfalso; omega))) (fun hc20 => ?_)
                        refine Z.skip ?_
                        refine Z.nblock ?_
                        refine Z.nthen ?_
                        refine Z.seq ?_
                        refine Z.seq ?_
                        refine Z.region ?_
                        refine Z.l rfl rfl (by rfl) (Z.keepS hs) (by first | exact Z.Yd.load rfl Try.isAgg3 (fun _ => Z.cellB (by first | ((repeat (first | exact List.mem_cons_self | refine List.mem_cons_of_mem _ ?_ | refine List.mem_append_right _ ?_)); done) | fail) rfl) | exact Z.Yd.load rfl Try.isAgg3 (fun _ => Z.cellO (by assumption) (by simp) (by assumption)) | fail "load 22.0") ?_
                        refine Z.lnil ?_
                        refine Z.only [2, 3, 4, 9, 10, 92] rfl ?_
                        refine Z.nthen ?_
                        refine Z.region ?_
                        refine Z.le rfl trivial ?_
                        refine Z.ZO.alloc rfl rfl (by rfl) Try.zeroValue3 rfl hs ?_
                        clear hs; intro g11 w11 hs
                        refine Z.le rfl trivial ?_
                        first | refine Z.ZO.store rfl rfl hs Try.sizeOf3 rfl rfl rfl (by first | exact SX.at0 | exact SX.at1 | exact SX.at2 | exact SX.at3 | exact SX.at4 | exact SX.at5 | exact Z.at6 | exact Z.at7 | exact Z.at8 | exact Z.at9 | exact Z.at10 | exact Z.at11 | exact Z.at12) (by first | (simp; done) | (simp; omega)) ?_ | refine Z.ZO.storeR rfl rfl hs Try.sizeOf3 rfl rfl rfl (by first | exact SX.at0 | exact SX.at1 | exact SX.at2 | exact SX.at3 | exact SX.at4 | exact SX.at5 | exact Z.at6 | exact Z.at7 | exact Z.at8 | exact Z.at9 | exact Z.at10 | exact Z.at11 | exact Z.at12) (by first | omega | (simp [ints_length]; done) | (simp [ints_length]; omega)) ?_
                        clear hs; intro ws hs
                        simp only [Nat.zero_add, Nat.add_zero, Nat.reduceAdd, Int.reduceToNat, Nat.reduceMul, List.set_cons_zero, List.set_cons_succ, List.setIfInBounds_toArray] at hs
                        refine Z.lnil ?_
                        refine Z.only [2, 3, 4, 9, 10, 11] rfl ?_
                        refine Z.nthen ?_
                        refine Z.region ?_
                        refine Z.l rfl rfl (by rfl) (Z.keepS hs) (by first | exact Z.Yd.load rfl Try.isAgg3 (fun _ => Z.cellB (by first | ((repeat (first | exact List.mem_cons_self | refine List.mem_cons_of_mem _ ?_ | refine List.mem_append_right _ ?_)); done) | fail) rfl) | exact Z.Yd.load rfl Try.isAgg3 (fun _ => Z.cellO (by assumption) (by simp) (by assumption)) | fail "load 11.0") ?_
                        refine Z.l rfl rfl (by rfl) (Z.keepS hs) (Z.Yd.add rfl rfl (fun hG => Z.wi64 (by first | omega | (have hG' := Z.gh rfl hG; simp at hG'; omega)))) ?_
                        refine Z.le rfl trivial ?_
                        first | refine Z.ZO.store rfl rfl hs Try.sizeOf3 rfl rfl rfl (by first | exact SX.at0 | exact SX.at1 | exact SX.at2 | exact SX.at3 | exact SX.at4 | exact SX.at5 | exact Z.at6 | exact Z.at7 | exact Z.at8 | exact Z.at9 | exact Z.at10 | exact Z.at11 | exact Z.at12) (by first | (simp; done) | (simp; omega)) ?_ | refine Z.ZO.storeR rfl rfl hs Try.sizeOf3 rfl rfl rfl (by first | exact SX.at0 | exact SX.at1 | exact SX.at2 | exact SX.at3 | exact SX.at4 | exact SX.at5 | exact Z.at6 | exact Z.at7 | exact Z.at8 | exact Z.at9 | exact Z.at10 | exact Z.at11 | exact Z.at12) (by first | omega | (simp [ints_length]; done) | (simp [ints_length]; omega)) ?_
                        clear hs; intro ws hs
                        simp only [Nat.zero_add, Nat.add_zero, Nat.reduceAdd, Int.reduceToNat, Nat.reduceMul, List.set_cons_zero, List.set_cons_succ, List.setIfInBounds_toArray] at hs
                        refine Z.lnil ?_
                        refine Z.only [2, 3, 4, 9, 10, 11] rfl ?_
                        refine Z.nthen ?_
                        exact Z.againD (g11, turn + 1, Dd :: ds) rfl (by refine ⟨?_, ?_, ?_, ?_, ?_, ?_, trivial⟩ <;> (first | rfl | (refine Z.lookv rfl ?_; simp; done) | (refine Z.lookv rfl ?_; simp; omega))) ⟨by simp only; omega, hs.sub ((((List.Sublist.refl _).cons _).cons _).cons_cons _)⟩ (by simp only; omega)
                        )
                  )
            · first
                | (exfalso; simp at hsp73 <;> omega)
                | (
                  refine Z.yes (s := 73) (b := false) rfl hsp73 rfl ?_
                  (try simp at hsp73)
                  refine Z.ls rfl rfl rfl (by rfl) ?_
                  refine Z.ls rfl rfl rfl (by rfl) ?_
                  refine Z.ls rfl rfl rfl (by rfl) ?_
                  refine Z.ls rfl rfl rfl (by rfl) ?_
                  refine Z.ls rfl rfl rfl (by rfl) ?_
                  refine Z.ls rfl rfl rfl (by rfl) ?_
                  refine Z.ls rfl rfl rfl (by rfl) ?_
                  refine Z.l rfl rfl (by rfl) (Z.keepS hs) (Z.Yd.pickF rfl rfl) ?_
                  refine Z.lb 1 rfl ?_
                  refine Z.yes (s := 82) (b := false) rfl ((by first | (simp; done) | (have h := hn0 (by omega); simp [← h]; done) | (exfalso; omega))) rfl ?_
                  refine Z.l rfl rfl (by rfl) (Z.keepS hs) (by first | exact Z.Yd.load rfl Try.isAgg3 (fun _ => Z.cellB (by first | ((repeat (first | exact List.mem_cons_self | refine List.mem_cons_of_mem _ ?_ | refine List.mem_append_right _ ?_)); done) | fail) rfl) | exact Z.Yd.load rfl Try.isAgg3 (fun _ => Z.cellO (by assumption) (by simp) (by assumption)) | fail "load 20.12") ?_
                  refine Z.lb 2 rfl ?_
                  refine Z.yes (s := 82) (b := false) rfl rfl rfl ?_
                  refine Z.split (s := 85) rfl (fun hsp85 => ?_) (fun hsp85 => ?_)
                  · first
                      | (exfalso; simp at hsp85 <;> omega)
                      | (
                        refine Z.yes (s := 85) (b := true) rfl hsp85 rfl ?_
                        (try simp at hsp85)
                        refine Z.l rfl rfl (by rfl) (Z.keepS hs) (by first | exact Z.Yd.load rfl Try.isAgg3 (fun _ => Z.cellB (by first | ((repeat (first | exact List.mem_cons_self | refine List.mem_cons_of_mem _ ?_ | refine List.mem_append_right _ ?_)); done) | fail) rfl) | exact Z.Yd.load rfl Try.isAgg3 (fun _ => Z.cellO (by assumption) (by simp) (by assumption)) | fail "load 20.15") ?_
                        refine Z.l rfl rfl (by rfl) (Z.keepS hs) (by first | exact Z.Yd.load rfl Try.isAgg28 (fun _ => Z.cellB (by first | ((repeat (first | exact List.mem_cons_self | refine List.mem_cons_of_mem _ ?_ | refine List.mem_append_right _ ?_)); done) | fail) rfl) | exact Z.Yd.load rfl Try.isAgg28 (fun _ => Z.cellO (by assumption) (by simp) (by assumption)) | fail "load 20.16") ?_
                        refine Z.l rfl rfl (by rfl) (Z.keepS hs) (Z.Yd.lenS rfl Try.underlying28) ?_
                        refine Z.lb 1 rfl ?_
                        refine Z.yes (s := 85) (b := true) rfl rfl rfl ?_
                        refine Z.l rfl rfl (by rfl) (Z.keepS hs) (Z.Yd.pickT rfl rfl) ?_
                        refine Z.yes (s := 82) (b := false) rfl rfl rfl ?_
                        refine Z.l rfl rfl (by rfl) (Z.keepS hs) (Z.Yd.pickF rfl rfl) ?_
                        refine Z.lnil ?_
                        refine Z.only [2, 3, 4, 9, 10, 11, 91] rfl ?_
                        refine Z.nthen ?_
                        refine Z.cond rfl (fun h => absurd h (by first | (simp; done) | (have h := hn0 (by omega); simp [← h]; done) | (exfalso; omega))) (fun hc20 => ?_)
                        refine Z.skip ?_
                        refine Z.nblock ?_
                        refine Z.nthen ?_
                        refine Z.seq ?_
                        refine Z.seq ?_
                        refine Z.region ?_
                        refine Z.l rfl rfl (by rfl) (Z.keepS hs) (by first | exact Z.Yd.load rfl Try.isAgg3 (fun _ => Z.cellB (by first | ((repeat (first | exact List.mem_cons_self | refine List.mem_cons_of_mem _ ?_ | refine List.mem_append_right _ ?_)); done) | fail) rfl) | exact Z.Yd.load rfl Try.isAgg3 (fun _ => Z.cellO (by assumption) (by simp) (by assumption)) | fail "load 22.0") ?_
                        refine Z.lnil ?_
                        refine Z.only [2, 3, 4, 9, 10, 92] rfl ?_
                        refine Z.nthen ?_
                        refine Z.region ?_
                        refine Z.le rfl trivial ?_
                        refine Z.ZO.alloc rfl rfl (by rfl) Try.zeroValue3 rfl hs ?_
                        clear hs; intro g11 w11 hs
                        refine Z.le rfl trivial ?_
                        first | refine Z.ZO.store rfl rfl hs Try.sizeOf3 rfl rfl rfl (by first | exact SX.at0 | exact SX.at1 | exact SX.at2 | exact SX.at3 | exact SX.at4 | exact SX.at5 | exact Z.at6 | exact Z.at7 | exact Z.at8 | exact Z.at9 | exact Z.at10 | exact Z.at11 | exact Z.at12) (by first | (simp; done) | (simp; omega)) ?_ | refine Z.ZO.storeR rfl rfl hs Try.sizeOf3 rfl rfl rfl (by first | exact SX.at0 | exact SX.at1 | exact SX.at2 | exact SX.at3 | exact SX.at4 | exact SX.at5 | exact Z.at6 | exact Z.at7 | exact Z.at8 | exact Z.at9 | exact Z.at10 | exact Z.at11 | exact Z.at12) (by first | omega | (simp [ints_length]; done) | (simp [ints_length]; omega)) ?_
                        clear hs; intro ws hs
                        simp only [Nat.zero_add, Nat.add_zero, Nat.reduceAdd, Int.reduceToNat, Nat.reduceMul, List.set_cons_zero, List.set_cons_succ, List.setIfInBounds_toArray] at hs
                        refine Z.lnil ?_
                        refine Z.only [2, 3, 4, 9, 10, 11] rfl ?_
                        refine Z.nthen ?_
                        refine Z.region ?_
                        refine Z.l rfl rfl (by rfl) (Z.keepS hs) (by first | exact Z.Yd.load rfl Try.isAgg3 (fun _ => Z.cellB (by first | ((repeat (first | exact List.mem_cons_self | refine List.mem_cons_of_mem _ ?_ | refine List.mem_append_right _ ?_)); done) | fail) rfl) | exact Z.Yd.load rfl Try.isAgg3 (fun _ => Z.cellO (by assumption) (by simp) (by assumption)) | fail "load 11.0") ?_
                        refine Z.l rfl rfl (by rfl) (Z.keepS hs) (Z.Yd.add rfl rfl (fun hG => Z.wi64 (by first | omega | (have hG' := Z.gh rfl hG; simp at hG'; omega)))) ?_
                        refine Z.le rfl trivial ?_
                        first | refine Z.ZO.store rfl rfl hs Try.sizeOf3 rfl rfl rfl (by first | exact SX.at0 | exact SX.at1 | exact SX.at2 | exact SX.at3 | exact SX.at4 | exact SX.at5 | exact Z.at6 | exact Z.at7 | exact Z.at8 | exact Z.at9 | exact Z.at10 | exact Z.at11 | exact Z.at12) (by first | (simp; done) | (simp; omega)) ?_ | refine Z.ZO.storeR rfl rfl hs Try.sizeOf3 rfl rfl rfl (by first | exact SX.at0 | exact SX.at1 | exact SX.at2 | exact SX.at3 | exact SX.at4 | exact SX.at5 | exact Z.at6 | exact Z.at7 | exact Z.at8 | exact Z.at9 | exact Z.at10 | exact Z.at11 | exact Z.at12) (by first | omega | (simp [ints_length]; done) | (simp [ints_length]; omega)) ?_
                        clear hs; intro ws hs
                        simp only [Nat.zero_add, Nat.add_zero, Nat.reduceAdd, Int.reduceToNat, Nat.reduceMul, List.set_cons_zero, List.set_cons_succ, List.setIfInBounds_toArray] at hs
                        refine Z.lnil ?_
                        refine Z.only [2, 3, 4, 9, 10, 11] rfl ?_
                        refine Z.nthen ?_
                        exact Z.againD (g11, turn + 1, Dd :: ds) rfl (by refine ⟨?_, ?_, ?_, ?_, ?_, ?_, trivial⟩ <;> (first | rfl | (refine Z.lookv rfl ?_; simp; done) | (refine Z.lookv rfl ?_; simp; omega))) ⟨by simp only; omega, hs.sub ((((List.Sublist.refl _).cons _).cons _).cons_cons _)⟩ (by simp only; omega)
                        )
                  · first
                      | (exfalso; simp at hsp85 <;> omega)
                      | (
                        refine Z.yes (s := 85) (b := false) rfl hsp85 rfl ?_
                        (try simp at hsp85)
                        refine Z.ls rfl rfl rfl (by rfl) ?_
                        refine Z.ls rfl rfl rfl (by rfl) ?_
                        refine Z.ls rfl rfl rfl (by rfl) ?_
                        refine Z.ls rfl rfl rfl (by rfl) ?_
                        refine Z.l rfl rfl (by rfl) (Z.keepS hs) (Z.Yd.pickF rfl rfl) ?_
                        refine Z.yes (s := 82) (b := false) rfl rfl rfl ?_
                        refine Z.l rfl rfl (by rfl) (Z.keepS hs) (Z.Yd.pickF rfl rfl) ?_
                        refine Z.lnil ?_
                        refine Z.only [2, 3, 4, 9, 10, 11, 91] rfl ?_
                        refine Z.nthen ?_
                        refine Z.cond rfl (fun h => absurd h (by first | (simp; done) | (have h := hn0 (by omega); simp [← h]; done) | (exfalso; omega))) (fun hc20 => ?_)
                        refine Z.skip ?_
                        refine Z.nblock ?_
                        refine Z.nthen ?_
                        refine Z.seq ?_
                        refine Z.seq ?_
                        refine Z.region ?_
                        refine Z.l rfl rfl (by rfl) (Z.keepS hs) (by first | exact Z.Yd.load rfl Try.isAgg3 (fun _ => Z.cellB (by first | ((repeat (first | exact List.mem_cons_self | refine List.mem_cons_of_mem _ ?_ | refine List.mem_append_right _ ?_)); done) | fail) rfl) | exact Z.Yd.load rfl Try.isAgg3 (fun _ => Z.cellO (by assumption) (by simp) (by assumption)) | fail "load 22.0") ?_
                        refine Z.lnil ?_
                        refine Z.only [2, 3, 4, 9, 10, 92] rfl ?_
                        refine Z.nthen ?_
                        refine Z.region ?_
                        refine Z.le rfl trivial ?_
                        refine Z.ZO.alloc rfl rfl (by rfl) Try.zeroValue3 rfl hs ?_
                        clear hs; intro g11 w11 hs
                        refine Z.le rfl trivial ?_
                        first | refine Z.ZO.store rfl rfl hs Try.sizeOf3 rfl rfl rfl (by first | exact SX.at0 | exact SX.at1 | exact SX.at2 | exact SX.at3 | exact SX.at4 | exact SX.at5 | exact Z.at6 | exact Z.at7 | exact Z.at8 | exact Z.at9 | exact Z.at10 | exact Z.at11 | exact Z.at12) (by first | (simp; done) | (simp; omega)) ?_ | refine Z.ZO.storeR rfl rfl hs Try.sizeOf3 rfl rfl rfl (by first | exact SX.at0 | exact SX.at1 | exact SX.at2 | exact SX.at3 | exact SX.at4 | exact SX.at5 | exact Z.at6 | exact Z.at7 | exact Z.at8 | exact Z.at9 | exact Z.at10 | exact Z.at11 | exact Z.at12) (by first | omega | (simp [ints_length]; done) | (simp [ints_length]; omega)) ?_
                        clear hs; intro ws hs
                        simp only [Nat.zero_add, Nat.add_zero, Nat.reduceAdd, Int.reduceToNat, Nat.reduceMul, List.set_cons_zero, List.set_cons_succ, List.setIfInBounds_toArray] at hs
                        refine Z.lnil ?_
                        refine Z.only [2, 3, 4, 9, 10, 11] rfl ?_
                        refine Z.nthen ?_
                        refine Z.region ?_
                        refine Z.l rfl rfl (by rfl) (Z.keepS hs) (by first | exact Z.Yd.load rfl Try.isAgg3 (fun _ => Z.cellB (by first | ((repeat (first | exact List.mem_cons_self | refine List.mem_cons_of_mem _ ?_ | refine List.mem_append_right _ ?_)); done) | fail) rfl) | exact Z.Yd.load rfl Try.isAgg3 (fun _ => Z.cellO (by assumption) (by simp) (by assumption)) | fail "load 11.0") ?_
                        refine Z.l rfl rfl (by rfl) (Z.keepS hs) (Z.Yd.add rfl rfl (fun hG => Z.wi64 (by first | omega | (have hG' := Z.gh rfl hG; simp at hG'; omega)))) ?_
                        refine Z.le rfl trivial ?_
                        first | refine Z.ZO.store rfl rfl hs Try.sizeOf3 rfl rfl rfl (by first | exact SX.at0 | exact SX.at1 | exact SX.at2 | exact SX.at3 | exact SX.at4 | exact SX.at5 | exact Z.at6 | exact Z.at7 | exact Z.at8 | exact Z.at9 | exact Z.at10 | exact Z.at11 | exact Z.at12) (by first | (simp; done) | (simp; omega)) ?_ | refine Z.ZO.storeR rfl rfl hs Try.sizeOf3 rfl rfl rfl (by first | exact SX.at0 | exact SX.at1 | exact SX.at2 | exact SX.at3 | exact SX.at4 | exact SX.at5 | exact Z.at6 | exact Z.at7 | exact Z.at8 | exact Z.at9 | exact Z.at10 | exact Z.at11 | exact Z.at12) (by first | omega | (simp [ints_length]; done) | (simp [ints_length]; omega)) ?_
                        clear hs; intro ws hs
                        simp only [Nat.zero_add, Nat.add_zero, Nat.reduceAdd, Int.reduceToNat, Nat.reduceMul, List.set_cons_zero, List.set_cons_succ, List.setIfInBounds_toArray] at hs
                        refine Z.lnil ?_
                        refine Z.only [2, 3, 4, 9, 10, 11] rfl ?_
                        refine Z.nthen ?_
                        exact Z.againD (g11, turn + 1, Dd :: ds) rfl (by refine ⟨?_, ?_, ?_, ?_, ?_, ?_, trivial⟩ <;> (first | rfl | (refine Z.lookv rfl ?_; simp; done) | (refine Z.lookv rfl ?_; simp; omega))) ⟨by simp only; omega, hs.sub ((((List.Sublist.refl _).cons _).cons _).cons_cons _)⟩ (by simp only; omega)
                        )
                  )
          · clear hs
            rintro Dd c W2 L2 hi hs
            obtain ⟨⟨ht, rfl⟩, N, hn0, rfl⟩ := hi
            have hn0 : turn = 0 → (N : Int) = min (K : Int) (max 1 many) := fun _ => hn0
            have hn1 : turn = 1 → N = K := fun h => by omega
            replace hs := Z.fromRange (C := [_, _, _, _, _, _, _]) (E0 := [_, _]) hs
            refine Z.exit ?_
            refine Z.xblock ?_
            refine Z.nthen ?_
            refine Z.seq ?_
            refine Z.region ?_
            refine Z.l rfl rfl (by rfl) (Z.keepS hs) (by first | exact Z.Yd.load rfl Try.isAgg3 (fun _ => Z.cellB (by first | ((repeat (first | exact List.mem_cons_self | refine List.mem_cons_of_mem _ ?_ | refine List.mem_append_right _ ?_)); done) | fail) rfl) | exact Z.Yd.load rfl Try.isAgg3 (fun _ => Z.cellO (by assumption) (by simp) (by assumption)) | fail "load 20.0") ?_
            refine Z.lb 2 rfl ?_
            refine Z.split (s := 73) rfl (fun hsp73 => ?_) (fun hsp73 => ?_)
            · first
                | (exfalso; simp at hsp73 <;> omega)
                | (
                  refine Z.yes (s := 73) (b := true) rfl hsp73 rfl ?_
                  (try simp at hsp73)
                  refine Z.l rfl rfl (by rfl) (Z.keepS hs) (by first | exact Z.Yd.load rfl Try.isAgg3 (fun _ => Z.cellB (by first | ((repeat (first | exact List.mem_cons_self | refine List.mem_cons_of_mem _ ?_ | refine List.mem_append_right _ ?_)); done) | fail) rfl) | exact Z.Yd.load rfl Try.isAgg3 (fun _ => Z.cellO (by assumption) (by simp) (by assumption)) | fail "load 20.3") ?_
                  refine Z.l rfl rfl (by rfl) (Z.keepS hs) (by first | exact Z.Yd.load rfl Try.isAgg28 (fun _ => Z.cellB (by first | ((repeat (first | exact List.mem_cons_self | refine List.mem_cons_of_mem _ ?_ | refine List.mem_append_right _ ?_)); done) | fail) rfl) | exact Z.Yd.load rfl Try.isAgg28 (fun _ => Z.cellO (by assumption) (by simp) (by assumption)) | fail "load 20.4") ?_
                  refine Z.l rfl rfl (by rfl) (Z.keepS hs) (Z.Yd.lenS rfl Try.underlying28) ?_
                  refine Z.l rfl rfl (by rfl) (Z.keepS hs) (by first | exact Z.Yd.load rfl Try.isAgg3 (fun _ => Z.cellB (by first | ((repeat (first | exact List.mem_cons_self | refine List.mem_cons_of_mem _ ?_ | refine List.mem_append_right _ ?_)); done) | fail) rfl) | exact Z.Yd.load rfl Try.isAgg3 (fun _ => Z.cellO (by assumption) (by simp) (by assumption)) | fail "load 20.6") ?_
                  refine Z.l rfl rfl (by rfl) (Z.keepS hs) (Z.Yd.max rfl rfl) ?_
                  refine Z.l rfl rfl (by rfl) (Z.keepS hs) (Z.Yd.min rfl rfl) ?_
                  refine Z.lb 1 rfl ?_
                  refine Z.yes (s := 73) (b := true) rfl rfl rfl ?_
                  refine Z.l rfl rfl (by rfl) (Z.keepS hs) (Z.Yd.pickT rfl rfl) ?_
                  refine Z.lb 1 rfl ?_
                  refine Z.yes (s := 82) (b := false) rfl ((by first | (simp; done) | (have h := hn0 (by omega); simp [← h]; done) | (exfalso; omega))) rfl ?_
                  refine Z.l rfl rfl (by rfl) (Z.keepS hs) (by first | exact Z.Yd.load rfl Try.isAgg3 (fun _ => Z.cellB (by first | ((repeat (first | exact List.mem_cons_self | refine List.mem_cons_of_mem _ ?_ | refine List.mem_append_right _ ?_)); done) | fail) rfl) | exact Z.Yd.load rfl Try.isAgg3 (fun _ => Z.cellO (by assumption) (by simp) (by assumption)) | fail "load 20.12") ?_
                  refine Z.lb 2 rfl ?_
                  refine Z.yes (s := 82) (b := false) rfl rfl rfl ?_
                  refine Z.split (s := 85) rfl (fun hsp85 => ?_) (fun hsp85 => ?_)
                  · first
                      | (exfalso; simp at hsp85 <;> omega)
                      | (
                        refine Z.yes (s := 85) (b := true) rfl hsp85 rfl ?_
                        (try simp at hsp85)
                        refine Z.l rfl rfl (by rfl) (Z.keepS hs) (by first | exact Z.Yd.load rfl Try.isAgg3 (fun _ => Z.cellB (by first | ((repeat (first | exact List.mem_cons_self | refine List.mem_cons_of_mem _ ?_ | refine List.mem_append_right _ ?_)); done) | fail) rfl) | exact Z.Yd.load rfl Try.isAgg3 (fun _ => Z.cellO (by assumption) (by simp) (by assumption)) | fail "load 20.15") ?_
                        refine Z.l rfl rfl (by rfl) (Z.keepS hs) (by first | exact Z.Yd.load rfl Try.isAgg28 (fun _ => Z.cellB (by first | ((repeat (first | exact List.mem_cons_self | refine List.mem_cons_of_mem _ ?_ | refine List.mem_append_right _ ?_)); done) | fail) rfl) | exact Z.Yd.load rfl Try.isAgg28 (fun _ => Z.cellO (by assumption) (by simp) (by assumption)) | fail "load 20.16") ?_
                        refine Z.l rfl rfl (by rfl) (Z.keepS hs) (Z.Yd.lenS rfl Try.underlying28) ?_
                        refine Z.lb 1 rfl ?_
                        refine Z.yes (s := 85) (b := true) rfl rfl rfl ?_
                        refine Z.l rfl rfl (by rfl) (Z.keepS hs) (Z.Yd.pickT rfl rfl) ?_
                        refine Z.yes (s := 82) (b := false) rfl rfl rfl ?_
                        refine Z.l rfl rfl (by rfl) (Z.keepS hs) (Z.Yd.pickF rfl rfl) ?_
                        refine Z.lnil ?_
                        refine Z.only [2, 3, 4, 9, 10, 11, 91] rfl ?_
                        refine Z.nthen ?_
                        refine Z.cond rfl (fun h => absurd h (by first | (simp; done) | (have h := hn0 (by omega); simp [← h]; done) | (exfalso; omega))) (fun hc20 => ?_)
                        refine Z.skip ?_
                        refine Z.nblock ?_
                        refine Z.nthen ?_
                        refine Z.seq ?_
                        refine Z.seq ?_
                        refine Z.region ?_
                        refine Z.l rfl rfl (by rfl) (Z.keepS hs) (by first | exact Z.Yd.load rfl Try.isAgg3 (fun _ => Z.cellB (by first | ((repeat (first | exact List.mem_cons_self | refine List.mem_cons_of_mem _ ?_ | refine List.mem_append_right _ ?_)); done) | fail) rfl) | exact Z.Yd.load rfl Try.isAgg3 (fun _ => Z.cellO (by assumption) (by simp) (by assumption)) | fail "load 22.0") ?_
                        refine Z.lnil ?_
                        refine Z.only [2, 3, 4, 9, 10, 92] rfl ?_
                        refine Z.nthen ?_
                        refine Z.region ?_
                        refine Z.le rfl trivial ?_
                        refine Z.ZO.alloc rfl rfl (by rfl) Try.zeroValue3 rfl hs ?_
                        clear hs; intro g11 w11 hs
                        refine Z.le rfl trivial ?_
                        first | refine Z.ZO.store rfl rfl hs Try.sizeOf3 rfl rfl rfl (by first | exact SX.at0 | exact SX.at1 | exact SX.at2 | exact SX.at3 | exact SX.at4 | exact SX.at5 | exact Z.at6 | exact Z.at7 | exact Z.at8 | exact Z.at9 | exact Z.at10 | exact Z.at11 | exact Z.at12) (by first | (simp; done) | (simp; omega)) ?_ | refine Z.ZO.storeR rfl rfl hs Try.sizeOf3 rfl rfl rfl (by first | exact SX.at0 | exact SX.at1 | exact SX.at2 | exact SX.at3 | exact SX.at4 | exact SX.at5 | exact Z.at6 | exact Z.at7 | exact Z.at8 | exact Z.at9 | exact Z.at10 | exact Z.at11 | exact Z.at12) (by first | omega | (simp [ints_length]; done) | (simp [ints_length]; omega)) ?_
                        clear hs; intro ws hs
                        simp only [Nat.zero_add, Nat.add_zero, Nat.reduceAdd, Int.reduceToNat, Nat.reduceMul, List.set_cons_zero, List.set_cons_succ, List.setIfInBounds_toArray] at hs
                        refine Z.lnil ?_
                        refine Z.only [2, 3, 4, 9, 10, 11] rfl ?_
                        refine Z.nthen ?_
                        refine Z.region ?_
                        refine Z.l rfl rfl (by rfl) (Z.keepS hs) (by first | exact Z.Yd.load rfl Try.isAgg3 (fun _ => Z.cellB (by first | ((repeat (first | exact List.mem_cons_self | refine List.mem_cons_of_mem _ ?_ | refine List.mem_append_right _ ?_)); done) | fail) rfl) | exact Z.Yd.load rfl Try.isAgg3 (fun _ => Z.cellO (by assumption) (by simp) (by assumption)) | fail "load 11.0") ?_
                        refine Z.l rfl rfl (by rfl) (Z.keepS hs) (Z.Yd.add rfl rfl (fun hG => Z.wi64 (by first | omega | (have hG' := Z.gh rfl hG; simp at hG'; omega)))) ?_
                        refine Z.le rfl trivial ?_
                        first | refine Z.ZO.store rfl rfl hs Try.sizeOf3 rfl rfl rfl (by first | exact SX.at0 | exact SX.at1 | exact SX.at2 | exact SX.at3 | exact SX.at4 | exact SX.at5 | exact Z.at6 | exact Z.at7 | exact Z.at8 | exact Z.at9 | exact Z.at10 | exact Z.at11 | exact Z.at12) (by first | (simp; done) | (simp; omega)) ?_ | refine Z.ZO.storeR rfl rfl hs Try.sizeOf3 rfl rfl rfl (by first | exact SX.at0 | exact SX.at1 | exact SX.at2 | exact SX.at3 | exact SX.at4 | exact SX.at5 | exact Z.at6 | exact Z.at7 | exact Z.at8 | exact Z.at9 | exact Z.at10 | exact Z.at11 | exact Z.at12) (by first | omega | (simp [ints_length]; done) | (simp [ints_length]; omega)) ?_
                        clear hs; intro ws hs
                        simp only [Nat.zero_add, Nat.add_zero, Nat.reduceAdd, Int.reduceToNat, Nat.reduceMul, List.set_cons_zero, List.set_cons_succ, List.setIfInBounds_toArray] at hs
                        refine Z.lnil ?_
                        refine Z.only [2, 3, 4, 9, 10, 11] rfl ?_
                        refine Z.nthen ?_
                        exact Z.againD (g11, turn + 1, Dd :: ds) rfl (by refine ⟨?_, ?_, ?_, ?_, ?_, ?_, trivial⟩ <;> (first | rfl | (refine Z.lookv rfl ?_; simp; done) | (refine Z.lookv rfl ?_; simp; omega))) ⟨by simp only; omega, hs.sub ((((List.Sublist.refl _).cons _).cons _).cons_cons _)⟩ (by simp only; omega)
                        )
                  · first
                      | (exfalso; simp at hsp85 <;> omega)
                      | (
                        refine Z.yes (s := 85) (b := false) rfl hsp85 rfl ?_
                        (try simp at hsp85)
                        refine Z.ls rfl rfl rfl (by rfl) ?_
                        refine Z.ls rfl rfl rfl (by rfl) ?_
                        refine Z.ls rfl rfl rfl (by rfl) ?_
                        refine Z.ls rfl rfl rfl (by rfl) ?_
                        refine Z.l rfl rfl (by rfl) (Z.keepS hs) (Z.Yd.pickF rfl rfl) ?_
                        refine Z.yes (s := 82) (b := false) rfl rfl rfl ?_
                        refine Z.l rfl rfl (by rfl) (Z.keepS hs) (Z.Yd.pickF rfl rfl) ?_
                        refine Z.lnil ?_
                        refine Z.only [2, 3, 4, 9, 10, 11, 91] rfl ?_
                        refine Z.nthen ?_
                        refine Z.cond rfl (fun h => absurd h (by first | (simp; done) | (have h := hn0 (by omega); simp [← h]; done) | (exfalso; omega))) (fun hc20 => ?_)
                        refine Z.skip ?_
                        refine Z.nblock ?_
                        refine Z.nthen ?_
                        refine Z.seq ?_
                        refine Z.seq ?_
                        refine Z.region ?_
                        refine Z.l rfl rfl (by rfl) (Z.keepS hs) (by first | exact Z.Yd.load rfl Try.isAgg3 (fun _ => Z.cellB (by first | ((repeat (first | exact List.mem_cons_self | refine List.mem_cons_of_mem _ ?_ | refine List.mem_append_right _ ?_)); done) | fail) rfl) | exact Z.Yd.load rfl Try.isAgg3 (fun _ => Z.cellO (by assumption) (by simp) (by assumption)) | fail "load 22.0") ?_
                        refine Z.lnil ?_
                        refine Z.only [2, 3, 4, 9, 10, 92] rfl ?_
                        refine Z.nthen ?_
                        refine Z.region ?_
                        refine Z.le rfl trivial ?_
                        refine Z.ZO.alloc rfl rfl (by rfl) Try.zeroValue3 rfl hs ?_
                        clear hs; intro g11 w11 hs
                        refine Z.le rfl trivial ?_
                        first | refine Z.ZO.store rfl rfl hs Try.sizeOf3 rfl rfl rfl (by first | exact SX.at0 | exact SX.at1 | exact SX.at2 | exact SX.at3 | exact SX.at4 | exact SX.at5 | exact Z.at6 | exact Z.at7 | exact Z.at8 | exact Z.at9 | exact Z.at10 | exact Z.at11 | exact Z.at12) (by first | (simp; done) | (simp; omega)) ?_ | refine Z.ZO.storeR rfl rfl hs Try.sizeOf3 rfl rfl rfl (by first | exact SX.at0 | exact SX.at1 | exact SX.at2 | exact SX.at3 | exact SX.at4 | exact SX.at5 | exact Z.at6 | exact Z.at7 | exact Z.at8 | exact Z.at9 | exact Z.at10 | exact Z.at11 | exact Z.at12) (by first | omega | (simp [ints_length]; done) | (simp [ints_length]; omega)) ?_
                        clear hs; intro ws hs
                        simp only [Nat.zero_add, Nat.add_zero, Nat.reduceAdd, Int.reduceToNat, Nat.reduceMul, List.set_cons_zero, List.set_cons_succ, List.setIfInBounds_toArray] at hs
                        refine Z.lnil ?_
                        refine Z.only [2, 3, 4, 9, 10, 11] rfl ?_
                        refine Z.nthen ?_
                        refine Z.region ?_
                        refine Z.l rfl rfl (by rfl) (Z.keepS hs) (by first | exact Z.Yd.load rfl Try.isAgg3 (fun _ => Z.cellB (by first | ((repeat (first | exact List.mem_cons_self | refine List.mem_cons_of_mem _ ?_ | refine List.mem_append_right _ ?_)); done) | fail) rfl) | exact Z.Yd.load rfl Try.isAgg3 (fun _ => Z.cellO (by assumption) (by simp) (by assumption)) | fail "load 11.0") ?_
                        refine Z.l rfl rfl (by rfl) (Z.keepS hs) (Z.Yd.add rfl rfl (fun hG => Z.wi64 (by first | omega | (have hG' := Z.gh rfl hG; simp at hG'; omega)))) ?_
                        refine Z.le rfl trivial ?_
                        first | refine Z.ZO.store rfl rfl hs Try.sizeOf3 rfl rfl rfl (by first | exact SX.at0 | exact SX.at1 | exact SX.at2 | exact SX.at3 | exact SX.at4 | exact SX.at5 | exact Z.at6 | exact Z.at7 | exact Z.at8 | exact Z.at9 | exact Z.at10 | exact Z.at11 | exact Z.at12) (by first | (simp; done) | (simp; omega)) ?_ | refine Z.ZO.storeR rfl rfl hs Try.sizeOf3 rfl rfl rfl (by first | exact SX.at0 | exact SX.at1 | exact SX.at2 | exact SX.at3 | exact SX.at4 | exact SX.at5 | exact Z.at6 | exact Z.at7 | exact Z.at8 | exact Z.at9 | exact Z.at10 | exact Z.at11 | exact Z.at12) (by first | omega | (simp [ints_length]; done) | (simp [ints_length]; omega)) ?_
                        clear hs; intro ws hs
                        simp only [Nat.zero_add, Nat.add_zero, Nat.reduceAdd, Int.reduceToNat, Nat.reduceMul, List.set_cons_zero, List.set_cons_succ, List.setIfInBounds_toArray] at hs
                        refine Z.lnil ?_
                        refine Z.only [2, 3, 4, 9, 10, 11] rfl ?_
                        refine Z.nthen ?_
                        exact Z.againD (g11, turn + 1, Dd :: ds) rfl (by refine ⟨?_, ?_, ?_, ?_, ?_, ?_, trivial⟩ <;> (first | rfl | (refine Z.lookv rfl ?_; simp; done) | (refine Z.lookv rfl ?_; simp; omega))) ⟨by simp only; omega, hs.sub ((((List.Sublist.refl _).cons _).cons _).cons_cons _)⟩ (by simp only; omega)
                        )
                  )
            · first
                | (exfalso; simp at hsp73 <;> omega)
                | (
                  refine Z.yes (s := 73) (b := false) rfl hsp73 rfl ?_
                  (try simp at hsp73)
                  refine Z.ls rfl rfl rfl (by rfl) ?_
                  refine Z.ls rfl rfl rfl (by rfl) ?_
                  refine Z.ls rfl rfl rfl (by rfl) ?_
                  refine Z.ls rfl rfl rfl (by rfl) ?_
                  refine Z.ls rfl rfl rfl (by rfl) ?_
                  refine Z.ls rfl rfl rfl (by rfl) ?_
                  refine Z.ls rfl rfl rfl (by rfl) ?_
                  refine Z.l rfl rfl (by rfl) (Z.keepS hs) (Z.Yd.pickF rfl rfl) ?_
                  refine Z.lb 1 rfl ?_
                  refine Z.yes (s := 82) (b := false) rfl ((by first | (simp; done) | (have h := hn0 (by omega); simp [← h]; done) | (exfalso; omega))) rfl ?_
                  refine Z.l rfl rfl (by rfl) (Z.keepS hs) (by first | exact Z.Yd.load rfl Try.isAgg3 (fun _ => Z.cellB (by first | ((repeat (first | exact List.mem_cons_self | refine List.mem_cons_of_mem _ ?_ | refine List.mem_append_right _ ?_)); done) | fail) rfl) | exact Z.Yd.load rfl Try.isAgg3 (fun _ => Z.cellO (by assumption) (by simp) (by assumption)) | fail "load 20.12") ?_
                  refine Z.lb 2 rfl ?_
                  refine Z.yes (s := 82) (b := false) rfl rfl rfl ?_
                  refine Z.split (s := 85) rfl (fun hsp85 => ?_) (fun hsp85 => ?_)
                  · first
                      | (exfalso; simp at hsp85 <;> omega)
                      | (
                        refine Z.yes (s := 85) (b := true) rfl hsp85 rfl ?_
                        (try simp at hsp85)
                        refine Z.l rfl rfl (by rfl) (Z.keepS hs) (by first | exact Z.Yd.load rfl Try.isAgg3 (fun _ => Z.cellB (by first | ((repeat (first | exact List.mem_cons_self | refine List.mem_cons_of_mem _ ?_ | refine List.mem_append_right _ ?_)); done) | fail) rfl) | exact Z.Yd.load rfl Try.isAgg3 (fun _ => Z.cellO (by assumption) (by simp) (by assumption)) | fail "load 20.15") ?_
                        refine Z.l rfl rfl (by rfl) (Z.keepS hs) (by first | exact Z.Yd.load rfl Try.isAgg28 (fun _ => Z.cellB (by first | ((repeat (first | exact List.mem_cons_self | refine List.mem_cons_of_mem _ ?_ | refine List.mem_append_right _ ?_)); done) | fail) rfl) | exact Z.Yd.load rfl Try.isAgg28 (fun _ => Z.cellO (by assumption) (by simp) (by assumption)) | fail "load 20.16") ?_
                        refine Z.l rfl rfl (by rfl) (Z.keepS hs) (Z.Yd.lenS rfl Try.underlying28) ?_
                        refine Z.lb 1 rfl ?_
                        refine Z.yes (s := 85) (b := true) rfl rfl rfl ?_
                        refine Z.l rfl rfl (by rfl) (Z.keepS hs) (Z.Yd.pickT rfl rfl) ?_
                        refine Z.yes (s := 82) (b := false) rfl rfl rfl ?_
                        refine Z.l rfl rfl (by rfl) (Z.keepS hs) (Z.Yd.pickF rfl rfl) ?_
                        refine Z.lnil ?_
                        refine Z.only [2, 3, 4, 9, 10, 11, 91] rfl ?_
                        refine Z.nthen ?_
                        refine Z.cond rfl (fun h => absurd h (by first | (simp; done) | (have h := hn0 (by omega); simp [← h]; done) | (exfalso; omega))) (fun hc20 => ?_)
                        refine Z.skip ?_
                        refine Z.nblock ?_
                        refine Z.nthen ?_
                        refine Z.seq ?_
                        refine Z.seq ?_
                        refine Z.region ?_
                        refine Z.l rfl rfl (by rfl) (Z.keepS hs) (by first | exact Z.Yd.load rfl Try.isAgg3 (fun _ => Z.cellB (by first | ((repeat (first | exact List.mem_cons_self | refine List.mem_cons_of_mem _ ?_ | refine List.mem_append_right _ ?_)); done) | fail) rfl) | exact Z.Yd.load rfl Try.isAgg3 (fun _ => Z.cellO (by assumption) (by simp) (by assumption)) | fail "load 22.0") ?_
                        refine Z.lnil ?_
                        refine Z.only [2, 3, 4, 9, 10, 92] rfl ?_
                        refine Z.nthen ?_
                        refine Z.region ?_
                        refine Z.le rfl trivial ?_
                        refine Z.ZO.alloc rfl rfl (by rfl) Try.zeroValue3 rfl hs ?_
                        clear hs; intro g11 w11 hs
                        refine Z.le rfl trivial ?_
                        first | refine Z.ZO.store rfl rfl hs Try.sizeOf3 rfl rfl rfl (by first | exact SX.at0 | exact SX.at1 | exact SX.at2 | exact SX.at3 | exact SX.at4 | exact SX.at5 | exact Z.at6 | exact Z.at7 | exact Z.at8 | exact Z.at9 | exact Z.at10 | exact Z.at11 | exact Z.at12) (by first | (simp; done) | (simp; omega)) ?_ | refine Z.ZO.storeR rfl rfl hs Try.sizeOf3 rfl rfl rfl (by first | exact SX.at0 | exact SX.at1 | exact SX.at2 | exact SX.at3 | exact SX.at4 | exact SX.at5 | exact Z.at6 | exact Z.at7 | exact Z.at8 | exact Z.at9 | exact Z.at10 | exact Z.at11 | exact Z.at12) (by first | omega | (simp [ints_length]; done) | (simp [ints_length]; omega)) ?_
                        clear hs; intro ws hs
                        simp only [Nat.zero_add, Nat.add_zero, Nat.reduceAdd, Int.reduceToNat, Nat.reduceMul, List.set_cons_zero, List.set_cons_succ, List.setIfInBounds_toArray] at hs
                        refine Z.lnil ?_
                        refine Z.only [2, 3, 4, 9, 10, 11] rfl ?_
                        refine Z.nthen ?_
                        refine Z.region ?_
                        refine Z.l rfl rfl (by rfl) (Z.keepS hs) (by first | exact Z.Yd.load rfl Try.isAgg3 (fun _ => Z.cellB (by first | ((repeat (first | exact List.mem_cons_self | refine List.mem_cons_of_mem _ ?_ | refine List.mem_append_right _ ?_)); done) | fail) rfl) | exact Z.Yd.load rfl Try.isAgg3 (fun _ => Z.cellO (by assumption) (by simp) (by assumption)) | fail "load 11.0") ?_
                        refine Z.l rfl rfl (by rfl) (Z.keepS hs) (Z.Yd.add rfl rfl (fun hG => Z.wi64 (by first | omega | (have hG' := Z.gh rfl hG; simp at hG'; omega)))) ?_
                        refine Z.le rfl trivial ?_
                        first | refine Z.ZO.store rfl rfl hs Try.sizeOf3 rfl rfl rfl (by first | exact SX.at0 | exact SX.at1 | exact SX.at2 | exact SX.at3 | exact SX.at4 | exact SX.at5 | exact Z.at6 | exact Z.at7 | exact Z.at8 | exact Z.at9 | exact Z.at10 | exact Z.at11 | exact Z.at12) (by first | (simp; done) | (simp; omega)) ?_ | refine Z.ZO.storeR rfl rfl hs Try.sizeOf3 rfl rfl rfl (by first | exact SX.at0 | exact SX.at1 | exact SX.at2 | exact SX.at3 | exact SX.at4 | exact SX.at5 | exact Z.at6 | exact Z.at7 | exact Z.at8 | exact Z.at9 | exact Z.at10 | exact Z.at11 | exact Z.at12) (by first | omega | (simp [ints_length]; done) | (simp [ints_length]; omega)) ?_
                        clear hs; intro ws hs
                        simp only [Nat.zero_add, Nat.add_zero, Nat.reduceAdd, Int.reduceToNat, Nat.reduceMul, List.set_cons_zero, List.set_cons_succ, List.setIfInBounds_toArray] at hs
                        refine Z.lnil ?_
                        refine Z.only [2, 3, 4, 9, 10, 11] rfl ?_
                        refine Z.nthen ?_
                        exact Z.againD (g11, turn + 1, Dd :: ds) rfl (by refine ⟨?_, ?_, ?_, ?_, ?_, ?_, trivial⟩ <;> (first | rfl | (refine Z.lookv rfl ?_; simp; done) | (refine Z.lookv rfl ?_; simp; omega))) ⟨by simp only; omega, hs.sub ((((List.Sublist.refl _).cons _).cons _).cons_cons _)⟩ (by simp only; omega)
                        )
                  · first
                      | (exfalso; simp at hsp85 <;> omega)
                      | (
                        refine Z.yes (s := 85) (b := false) rfl hsp85 rfl ?_
                        (try simp at hsp85)
                        refine Z.ls rfl rfl rfl (by rfl) ?_
                        refine Z.ls rfl rfl rfl (by rfl) ?_
                        refine Z.ls rfl rfl rfl (by rfl) ?_
                        refine Z.ls rfl rfl rfl (by rfl) ?_
                        refine Z.l rfl rfl (by rfl) (Z.keepS hs) (Z.Yd.pickF rfl rfl) ?_
                        refine Z.yes (s := 82) (b := false) rfl rfl rfl ?_
                        refine Z.l rfl rfl (by rfl) (Z.keepS hs) (Z.Yd.pickF rfl rfl) ?_
                        refine Z.lnil ?_
                        refine Z.only [2, 3, 4, 9, 10, 11, 91] rfl ?_
                        refine Z.nthen ?_
                        refine Z.cond rfl (fun h => absurd h (by first | (simp; done) | (have h := hn0 (by omega); simp [← h]; done) | (exfalso; omega))) (fun hc20 => ?_)
                        refine Z.skip ?_
                        refine Z.nblock ?_
                        refine Z.nthen ?_
                        refine Z.seq ?_
                        refine Z.seq ?_
                        refine Z.region ?_
                        refine Z.l rfl rfl (by rfl) (Z.keepS hs) (by first | exact Z.Yd.load rfl Try.isAgg3 (fun _ => Z.cellB (by first | ((repeat (first | exact List.mem_cons_self | refine List.mem_cons_of_mem _ ?_ | refine List.mem_append_right _ ?_)); done) | fail) rfl) | exact Z.Yd.load rfl Try.isAgg3 (fun _ => Z.cellO (by assumption) (by simp) (by assumption)) | fail "load 22.0") ?_
                        refine Z.lnil ?_
                        refine Z.only [2, 3, 4, 9, 10, 92] rfl ?_
                        refine Z.nthen ?_
                        refine Z.region ?_
                        refine Z.le rfl trivial ?_
                        refine Z.ZO.alloc rfl rfl (by rfl) Try.zeroValue3 rfl hs ?_
                        clear hs; intro g11 w11 hs
                        refine Z.le rfl trivial ?_
                        first | refine Z.ZO.store rfl rfl hs Try.sizeOf3 rfl rfl rfl (by first | exact SX.at0 | exact SX.at1 | exact SX.at2 | exact SX.at3 | exact SX.at4 | exact SX.at5 | exact Z.at6 | exact Z.at7 | exact Z.at8 | exact Z.at9 | exact Z.at10 | exact Z.at11 | exact Z.at12) (by first | (simp; done) | (simp; omega)) ?_ | refine Z.ZO.storeR rfl rfl hs Try.sizeOf3 rfl rfl rfl (by first | exact SX.at0 | exact SX.at1 | exact SX.at2 | exact SX.at3 | exact SX.at4 | exact SX.at5 | exact Z.at6 | exact Z.at7 | exact Z.at8 | exact Z.at9 | exact Z.at10 | exact Z.at11 | exact Z.at12) (by first | omega | (simp [ints_length]; done) | (simp [ints_length]; omega)) ?_
                        clear hs; intro ws hs
                        simp only [Nat.zero_add, Nat.add_zero, Nat.reduceAdd, Int.reduceToNat, Nat.reduceMul, List.set_cons_zero, List.set_cons_succ, List.setIfInBounds_toArray] at hs
                        refine Z.lnil ?_
                        refine Z.only [2, 3, 4, 9, 10, 11] rfl ?_
                        refine Z.nthen ?_
                        refine Z.region ?_
                        refine Z.l rfl rfl (by rfl) (Z.keepS hs) (by first | exact Z.Yd.load rfl Try.isAgg3 (fun _ => Z.cellB (by first | ((repeat (first | exact List.mem_cons_self | refine List.mem_cons_of_mem _ ?_ | refine List.mem_append_right _ ?_)); done) | fail) rfl) | exact Z.Yd.load rfl Try.isAgg3 (fun _ => Z.cellO (by assumption) (by simp) (by assumption)) | fail "load 11.0") ?_
                        refine Z.l rfl rfl (by rfl) (Z.keepS hs) (Z.Yd.add rfl rfl (fun hG => Z.wi64 (by first | omega | (have hG' := Z.gh rfl hG; simp at hG'; omega)))) ?_
                        refine Z.le rfl trivial ?_
                        first | refine Z.ZO.store rfl rfl hs Try.sizeOf3 rfl rfl rfl (by first | exact SX.at0 | exact SX.at1 | exact SX.at2 | exact SX.at3 | exact SX.at4 | exact SX.at5 | exact Z.at6 | exact Z.at7 | exact Z.at8 | exact Z.at9 | exact Z.at10 | exact Z.at11 | exact Z.at12) (by first | (simp; done) | (simp; omega)) ?_ | refine Z.ZO.storeR rfl rfl hs Try.sizeOf3 rfl rfl rfl (by first | exact SX.at0 | exact SX.at1 | exact SX.at2 | exact SX.at3 | exact SX.at4 | exact SX.at5 | exact Z.at6 | exact Z.at7 | exact Z.at8 | exact Z.at9 | exact Z.at10 | exact Z.at11 | exact Z.at12) (by first | omega | (simp [ints_length]; done) | (simp [ints_length]; omega)) ?_
                        clear hs; intro ws hs
                        simp only [Nat.zero_add, Nat.add_zero, Nat.reduceAdd, Int.reduceToNat, Nat.reduceMul, List.set_cons_zero, List.set_cons_succ, List.setIfInBounds_toArray] at hs
                        refine Z.lnil ?_
                        refine Z.only [2, 3, 4, 9, 10, 11] rfl ?_
                        refine Z.nthen ?_
                        exact Z.againD (g11, turn + 1, Dd :: ds) rfl (by refine ⟨?_, ?_, ?_, ?_, ?_, ?_, trivial⟩ <;> (first | rfl | (refine Z.lookv rfl ?_; simp; done) | (refine Z.lookv rfl ?_; simp; omega))) ⟨by simp only; omega, hs.sub ((((List.Sublist.refl _).cons _).cons _).cons_cons _)⟩ (by simp only; omega)
                        )
                  )
          )
    · first
        | (exfalso; simp at hc10 <;> omega)
        | (
          (try simp at hc10)
          refine Z.exit ?_
          refine Z.xthen ?_
          refine Z.xthen ?_
          refine Z.xblock ?_
          refine Z.nthen ?_
          refine Z.seq ?_
          refine Z.region ?_
          refine Z.le rfl trivial ?_
          refine Z.ZO.call rfl rfl (by rfl) rfl rfl Try.call8 rfl (works25 _) ?_
          rintro v24_0 w24_0 ⟨rfl, hy⟩
          replace hs := hs.call hy
          clear hy
          try simp only [List.cons_append, List.nil_append, List.append_nil] at hs
          refine Z.le rfl trivial ?_
          first | refine Z.ZO.store rfl rfl hs Try.sizeOf4 rfl rfl rfl (by first | exact SX.at0 | exact SX.at1 | exact SX.at2 | exact SX.at3 | exact SX.at4 | exact SX.at5 | exact Z.at6 | exact Z.at7 | exact Z.at8 | exact Z.at9 | exact Z.at10 | exact Z.at11 | exact Z.at12) (by first | (simp; done) | (simp; omega)) ?_ | refine Z.ZO.storeR rfl rfl hs Try.sizeOf4 rfl rfl rfl (by first | exact SX.at0 | exact SX.at1 | exact SX.at2 | exact SX.at3 | exact SX.at4 | exact SX.at5 | exact Z.at6 | exact Z.at7 | exact Z.at8 | exact Z.at9 | exact Z.at10 | exact Z.at11 | exact Z.at12) (by first | omega | (simp [ints_length]; done) | (simp [ints_length]; omega)) ?_
          clear hs; intro ws hs
          simp only [Nat.zero_add, Nat.add_zero, Nat.reduceAdd, Int.reduceToNat, Nat.reduceMul, List.set_cons_zero, List.set_cons_succ, List.setIfInBounds_toArray] at hs
          refine Z.lnil ?_
          refine Z.only [4] rfl ?_
          refine Z.nthen ?_
          refine Z.ret ?_
          -- ret#0
          refine Z.outMs (vs := [_]) (ds) [_, _, _, _, _, _, _, _] (Z.marksFront (L := [_, _, _, _, _, _, _, _]) (ds := ds) hs) (fun wr hs => (by exact ⟨⟨_, rfl, Z.rvc hs Try.isAgg4 (by first | ((repeat (first | exact List.mem_cons_self | refine List.mem_cons_of_mem _ ?_ | refine List.mem_append_right _ ?_)); done) | fail) rfl⟩, trivial⟩)) ?_
          clear hs
          intro wr hs
          exact ⟨_, rfl, rfl, hs.sub (List.nil_sublist _)⟩
          )
  · skip
    refine Z.enterM Try.func3 rfl Try.ntmps3 rfl rfl ?_
    refine Z.seq ?_
    refine Z.region ?_
    refine Z.le rfl trivial ?_
    refine Z.ZO.box rfl rfl (by rfl) rfl rfl hs ?_
    clear hs; intro g2 w2 hs
    refine Z.le rfl trivial ?_
    refine Z.ZO.box rfl rfl (by rfl) rfl rfl hs ?_
    clear hs; intro g3 w3 hs
    refine Z.le rfl trivial ?_
    refine Z.ZO.alloc rfl rfl (by rfl) Try.zeroValue4 rfl hs ?_
    clear hs; intro g4 w4 hs
    refine Z.lnil ?_
    refine Z.only [2, 3, 4] rfl ?_
    refine Z.nthen ?_
    refine Z.seq ?_
    refine Z.seq ?_
    refine Z.region ?_
    refine Z.l rfl rfl (by rfl) (Z.keepS hs) (by first | exact Z.Yd.load rfl Try.isAgg22 (fun _ => Z.cellB (by first | ((repeat (first | exact List.mem_cons_self | refine List.mem_cons_of_mem _ ?_ | refine List.mem_append_right _ ?_)); done) | fail) rfl) | exact Z.Yd.load rfl Try.isAgg22 (fun _ => Z.cellO (by assumption) (by simp) (by assumption)) | fail "load 1.0") ?_
    refine Z.l rfl rfl (by rfl) (Z.keepS hs) (Z.Yd.lenS rfl Try.underlying22) ?_
    refine Z.lb 1 rfl ?_
    refine Z.lnil ?_
    refine Z.only [2, 3, 4, 17] rfl ?_
    refine Z.nthen ?_
    refine Z.cond rfl (fun hc1 => ?_) (fun h => absurd h (by simp; omega))
    refine Z.seq ?_
    refine Z.region ?_
    refine Z.le rfl trivial ?_
    refine Z.ZO.call rfl rfl (by rfl) rfl rfl Try.call8 rfl (works25 _) ?_
    rintro v2_0 w2_0 ⟨rfl, hy⟩
    replace hs := hs.call hy
    clear hy
    try simp only [List.cons_append, List.nil_append, List.append_nil] at hs
    refine Z.le rfl trivial ?_
    first | refine Z.ZO.store rfl rfl hs Try.sizeOf4 rfl rfl rfl (by first | exact SX.at0 | exact SX.at1 | exact SX.at2 | exact SX.at3 | exact SX.at4 | exact SX.at5 | exact Z.at6 | exact Z.at7 | exact Z.at8 | exact Z.at9 | exact Z.at10 | exact Z.at11 | exact Z.at12) (by first | (simp; done) | (simp; omega)) ?_ | refine Z.ZO.storeR rfl rfl hs Try.sizeOf4 rfl rfl rfl (by first | exact SX.at0 | exact SX.at1 | exact SX.at2 | exact SX.at3 | exact SX.at4 | exact SX.at5 | exact Z.at6 | exact Z.at7 | exact Z.at8 | exact Z.at9 | exact Z.at10 | exact Z.at11 | exact Z.at12) (by first | omega | (simp [ints_length]; done) | (simp [ints_length]; omega)) ?_
    clear hs; intro ws hs
    simp only [Nat.zero_add, Nat.add_zero, Nat.reduceAdd, Int.reduceToNat, Nat.reduceMul, List.set_cons_zero, List.set_cons_succ, List.setIfInBounds_toArray] at hs
    refine Z.lnil ?_
    refine Z.only [4] rfl ?_
    refine Z.nthen ?_
    refine Z.ret ?_
    repeat (first | refine Z.rthen ?_ | refine Z.rblock ?_ | refine Z.rscope ?_)
    -- ret#0
    refine Z.outM0 (vs := [_]) (by exact ⟨⟨_, rfl, Z.rvc hs Try.isAgg4 (by first | ((repeat (first | exact List.mem_cons_self | refine List.mem_cons_of_mem _ ?_ | refine List.mem_append_right _ ?_)); done) | fail) rfl⟩, trivial⟩) ?_
    exact ⟨_, rfl, rfl, hs.sub (List.nil_sublist _)⟩
theorem bucketOrders_rd (a0 : Option Addr) (len0 cap0 : Nat) (a1 : Int) (w : World) (z0 : Rd Try.prog w 22 (Value.slice a0 len0 cap0).cells.toList) (z1 : Rd Try.prog w 3 (Value.int .i64 a1).cells.toList) :
    Calls Try.prog 3 #[.slice a0 len0 cap0, .int .i64 a1] w fun e w' => e = .returned (.bool true) ∧ Below w.heap.size w w' := by
  obtain ⟨ls, h1, h2, -, h3⟩ := rd_logicals (show Rd Try.prog w 22 [.slice a0 len0 cap0] by simpa [Value.cells] using z0)
  refine (bucketOrders_walk a0 len0 cap0 a1 ls w h3 h1 h2).mono ?_
  rintro e w' ⟨v, rfl, rfl, h⟩
  exact ⟨rfl, h.below⟩
end Go.Proofs.Ythdhobnkclddhaa

/- Buckets: objects that are nil or zero. -/
namespace Go.Proofs.Ythdhobnkclddhaa
open Go.RowKit
set_option linter.unusedSimpArgs false
set_option linter.unusedVariables false
--newlaws

/-- nil, or a zero object -/
def NonP (w : World) (p : Option Addr) : Prop := p = none ∨ ∃ g, p = some ⟨g, 0, none⟩ ∧ Cel w g [.slice none 0 0, .slice none 0 0, .int .i64 0]
theorem NonP.st {w W : World} {L : List SX.Ent} {p : Option Addr} (h : NonP w p) (hW : SX.St w [] W L) : NonP W p := by
  rcases h with h | ⟨g, h, hc⟩
  · exact .inl h
  · exact .inr ⟨g, h, hc.st hW⟩
theorem bn_none (p : Option Addr) (w : World) (h : NonP w p) : Calls Try.prog 35 #[.pointer p] w (SX.Ret fun v w' => v = .bool true ∧ SX.St w [] w' []) := by
  rcases h with rfl | ⟨g, rfl, hc⟩
  · exact bk_none0 w
  · exact bk_none g 0 0 none _ _ w hc
theorem bn_divide (p A : Option Addr) (z : Int) (n c : Nat) (w : World) (h : NonP w p) : Calls Try.prog 18 #[.pointer p, .int .i64 z, .slice A n c] w (SX.Ret fun v w' => v = .tuple #[.slice none 0 0, .int .i64 1] ∧ SX.St w [] w' []) := by
  have hs := SX.St.start w
  refine Z.enter Try.func18 rfl Try.ntmps18 rfl rfl ?_
  refine Z.seq ?_
  refine Z.region ?_
  refine Z.lb 2 rfl ?_
  refine Z.lnil ?_
  refine Z.only [0, 1, 2] rfl ?_
  refine Z.nthen ?_
  refine Z.seq ?_
  refine Z.seq ?_
  refine Z.region ?_
  refine Z.lb 1 rfl ?_
  refine Z.le rfl trivial ?_
  refine Z.ZO.call rfl rfl (by rfl) rfl rfl Try.call35 rfl (bn_none p _ h) ?_
  rintro v1_1 w1_1 ⟨rfl, hy⟩
  replace hs := hs.call hy
  clear hy
  try simp only [List.cons_append, List.nil_append, List.append_nil] at hs
  refine Z.lnil ?_
  refine Z.only [0, 1, 2, 15] rfl ?_
  refine Z.nthen ?_
  refine Z.cond rfl (fun hc1 => ?_) (fun h => absurd h (by simp))
  refine Z.seq ?_
  refine Z.region ?_
  refine Z.lb 2 rfl ?_
  refine Z.lnil ?_
  refine Z.only [6, 7] rfl ?_
  refine Z.nthen ?_
  refine Z.ret ?_
  repeat (first | refine Z.rthen ?_ | refine Z.rblock ?_ | refine Z.rscope ?_)
  -- ret#0
  refine Z.out2 (by exact ⟨rfl, rfl, trivial⟩) ?_
  first | exact ⟨_, rfl, rfl, hs⟩ | exact ⟨_, rfl, rfl, hs.sub (List.nil_sublist _)⟩
theorem bn_tick (p : Option Addr) (z : Int) (w : World) (h : NonP w p) : Calls Try.prog 14 #[.pointer p, .int .i64 z] w (SX.Ret fun v w' => v = .int .i64 1 ∧ SX.St w [] w' []) := by
  have hs := SX.St.start w
  refine Z.enter Try.func14 rfl Try.ntmps14 rfl rfl ?_
  refine Z.seq ?_
  refine Z.region ?_
  refine Z.lb 1 rfl ?_
  refine Z.lnil ?_
  refine Z.only [0, 1] rfl ?_
  refine Z.nthen ?_
  refine Z.seq ?_
  refine Z.block ?_
  refine Z.seq ?_
  refine Z.region ?_
  refine Z.lb 1 rfl ?_
  refine Z.le rfl trivial ?_
  refine Z.ZO.call rfl rfl (by rfl) rfl rfl Try.call35 rfl (bn_none p _ h) ?_
  rintro v1_1 w1_1 ⟨rfl, hy⟩
  replace hs := hs.call hy
  clear hy
  try simp only [List.cons_append, List.nil_append, List.append_nil] at hs
  refine Z.lb 1 rfl ?_
  refine Z.lnil ?_
  refine Z.only [0, 1, 7] rfl ?_
  refine Z.nthen ?_
  refine Z.cond rfl (fun hc1 => ?_) (fun h => absurd h (by simp))
  refine Z.seq ?_
  refine Z.region ?_
  refine Z.lb 1 rfl ?_
  refine Z.lnil ?_
  refine Z.only [4] rfl ?_
  refine Z.nthen ?_
  refine Z.ret ?_
  repeat (first | refine Z.rthen ?_ | refine Z.rblock ?_ | refine Z.rscope ?_)
  -- ret#0
  refine Z.out1 (by exact ⟨rfl, trivial⟩) ?_
  first | exact ⟨_, rfl, rfl, hs⟩ | exact ⟨_, rfl, rfl, hs.sub (List.nil_sublist _)⟩
theorem bn_level (p : Option Addr) (z : Int) (w : World) (h : NonP w p) : Calls Try.prog 17 #[.pointer p, .int .i64 z] w (SX.Ret fun v w' => v = .tuple #[.int .i64 0, .bool false] ∧ SX.St w [] w' []) := by
  have hs := SX.St.start w
  refine Z.enter Try.func17 rfl Try.ntmps17 rfl rfl ?_
  refine Z.seq ?_
  refine Z.region ?_
  refine Z.lb 2 rfl ?_
  refine Z.lnil ?_
  refine Z.only [0, 1] rfl ?_
  refine Z.nthen ?_
  refine Z.seq ?_
  refine Z.seq ?_
  refine Z.region ?_
  refine Z.lb 1 rfl ?_
  refine Z.le rfl trivial ?_
  refine Z.ZO.call rfl rfl (by rfl) rfl rfl Try.call35 rfl (bn_none p _ h) ?_
  rintro v1_1 w1_1 ⟨rfl, hy⟩
  replace hs := hs.call hy
  clear hy
  try simp only [List.cons_append, List.nil_append, List.append_nil] at hs
  refine Z.lnil ?_
  refine Z.only [0, 1, 9] rfl ?_
  refine Z.nthen ?_
  refine Z.cond rfl (fun hc1 => ?_) (fun h => absurd h (by simp))
  refine Z.seq ?_
  refine Z.region ?_
  refine Z.lb 2 rfl ?_
  refine Z.lnil ?_
  refine Z.only [4, 5] rfl ?_
  refine Z.nthen ?_
  refine Z.ret ?_
  repeat (first | refine Z.rthen ?_ | refine Z.rblock ?_ | refine Z.rscope ?_)
  -- ret#0
  refine Z.out2 (by exact ⟨rfl, rfl, trivial⟩) ?_
  first | exact ⟨_, rfl, rfl, hs⟩ | exact ⟨_, rfl, rfl, hs.sub (List.nil_sublist _)⟩
theorem bn_now (p : Option Addr) (w : World) (h : NonP w p) : Calls Try.prog 25 #[.pointer p] w (SX.Ret fun v w' => v = .int .i64 0 ∧ SX.St w [] w' []) := by
  have hs := SX.St.start w
  refine Z.enter Try.func25 rfl Try.ntmps25 rfl rfl ?_
  refine Z.seq ?_
  refine Z.region ?_
  refine Z.lb 1 rfl ?_
  refine Z.lnil ?_
  refine Z.only [0] rfl ?_
  refine Z.nthen ?_
  refine Z.seq ?_
  refine Z.seq ?_
  refine Z.region ?_
  refine Z.lb 1 rfl ?_
  refine Z.le rfl trivial ?_
  refine Z.ZO.call rfl rfl (by rfl) rfl rfl Try.call35 rfl (bn_none p _ h) ?_
  rintro v1_1 w1_1 ⟨rfl, hy⟩
  replace hs := hs.call hy
  clear hy
  try simp only [List.cons_append, List.nil_append, List.append_nil] at hs
  refine Z.lnil ?_
  refine Z.only [0, 4] rfl ?_
  refine Z.nthen ?_
  refine Z.cond rfl (fun hc1 => ?_) (fun h => absurd h (by simp))
  refine Z.seq ?_
  refine Z.region ?_
  refine Z.lb 1 rfl ?_
  refine Z.lnil ?_
  refine Z.only [2] rfl ?_
  refine Z.nthen ?_
  refine Z.ret ?_
  repeat (first | refine Z.rthen ?_ | refine Z.rblock ?_ | refine Z.rscope ?_)
  -- ret#0
  refine Z.out1 (by exact ⟨rfl, trivial⟩) ?_
  first | exact ⟨_, rfl, rfl, hs⟩ | exact ⟨_, rfl, rfl, hs.sub (List.nil_sublist _)⟩
theorem bn_copy (p : Option Addr) (w : World) (h : NonP w p) : Calls Try.prog 22 #[.pointer p] w (SX.Ret fun v w' => v = .pointer none ∧ SX.St w [] w' []) := by
  have hs := SX.St.start w
  refine Z.enter Try.func22 rfl Try.ntmps22 rfl rfl ?_
  refine Z.seq ?_
  refine Z.region ?_
  refine Z.lb 1 rfl ?_
  refine Z.lnil ?_
  refine Z.only [0] rfl ?_
  refine Z.nthen ?_
  refine Z.seq ?_
  refine Z.seq ?_
  refine Z.region ?_
  refine Z.lb 1 rfl ?_
  refine Z.le rfl trivial ?_
  refine Z.ZO.call rfl rfl (by rfl) rfl rfl Try.call35 rfl (bn_none p _ h) ?_
  rintro v1_1 w1_1 ⟨rfl, hy⟩
  replace hs := hs.call hy
  clear hy
  try simp only [List.cons_append, List.nil_append, List.append_nil] at hs
  refine Z.lnil ?_
  refine Z.only [0, 4] rfl ?_
  refine Z.nthen ?_
  refine Z.cond rfl (fun hc1 => ?_) (fun h => absurd h (by simp))
  refine Z.seq ?_
  refine Z.region ?_
  refine Z.lb 1 rfl ?_
  refine Z.lnil ?_
  refine Z.only [2] rfl ?_
  refine Z.nthen ?_
  refine Z.ret ?_
  repeat (first | refine Z.rthen ?_ | refine Z.rblock ?_ | refine Z.rscope ?_)
  -- ret#0
  refine Z.out1 (by exact ⟨rfl, trivial⟩) ?_
  first | exact ⟨_, rfl, rfl, hs⟩ | exact ⟨_, rfl, rfl, hs.sub (List.nil_sublist _)⟩
theorem bn_order (p : Option Addr) (w : World) (h : NonP w p) : Calls Try.prog 12 #[.pointer p] w (SX.Ret fun v w' => ∃ g2, v = .func (.func 36) #[] #[.pointer (some ⟨g2, 0, none⟩)] ∧ SX.St w [] w' [SX.Ent.blk g2 22 #[.slice none 0 0]]) := by
  have hs := SX.St.start w
  refine Z.enter Try.func12 rfl Try.ntmps12 rfl rfl ?_
  refine Z.seq ?_
  refine Z.region ?_
  refine Z.lb 1 rfl ?_
  refine Z.lnil ?_
  refine Z.only [0] rfl ?_
  refine Z.nthen ?_
  refine Z.seq ?_
  refine Z.region ?_
  refine Z.le rfl trivial ?_
  refine Z.ZO.alloc rfl rfl (by rfl) Try.zeroValue22 rfl hs ?_
  clear hs; intro g3 w3 hs
  refine Z.lnil ?_
  refine Z.only [0, 3] rfl ?_
  refine Z.nthen ?_
  refine Z.seq ?_
  refine Z.seq ?_
  refine Z.region ?_
  refine Z.lb 1 rfl ?_
  refine Z.le rfl trivial ?_
  refine Z.ZO.call rfl rfl (by rfl) rfl rfl Try.call35 rfl (bn_none p _ (h.st (hs.sub (List.nil_sublist _)))) ?_
  rintro v2_1 w2_1 ⟨rfl, hy⟩
  replace hs := hs.call hy
  clear hy
  try simp only [List.cons_append, List.nil_append, List.append_nil] at hs
  refine Z.lb 1 rfl ?_
  refine Z.lnil ?_
  refine Z.only [0, 3, 8] rfl ?_
  refine Z.nthen ?_
  refine Z.cond rfl (fun h => absurd h (by simp)) (fun hc2 => ?_)
  refine Z.skip ?_
  refine Z.nthen ?_
  refine Z.seq ?_
  refine Z.region ?_
  refine Z.lb 2 rfl ?_
  refine Z.lnil ?_
  refine Z.only [2] rfl ?_
  refine Z.nthen ?_
  refine Z.ret ?_
  -- ret#0
  refine Z.out1 (by exact ⟨rfl, trivial⟩) ?_
  exact ⟨_, rfl, _, rfl, hs⟩
theorem bn_same (p q : Option Addr) (w : World) (h : NonP w p) (hq : NonP w q) : Calls Try.prog 16 #[.pointer p, .pointer q] w (SX.Ret fun v w' => v = .bool true ∧ SX.St w [] w' []) := by
  have hs := SX.St.start w
  refine Z.enter Try.func16 rfl Try.ntmps16 rfl rfl ?_
  refine Z.seq ?_
  refine Z.region ?_
  refine Z.lb 1 rfl ?_
  refine Z.lnil ?_
  refine Z.only [0, 1] rfl ?_
  refine Z.nthen ?_
  refine Z.seq ?_
  refine Z.seq ?_
  refine Z.region ?_
  refine Z.lb 1 rfl ?_
  refine Z.le rfl trivial ?_
  refine Z.ZO.call rfl rfl (by rfl) rfl rfl Try.call35 rfl (bn_none p _ h) ?_
  rintro v1_1 w1_1 ⟨rfl, hy⟩
  replace hs := hs.call hy
  clear hy
  try simp only [List.cons_append, List.nil_append, List.append_nil] at hs
  refine Z.lb 1 rfl ?_
  refine Z.yes (s := 7) (b := true) rfl ((by simp)) rfl ?_
  refine Z.ls rfl rfl rfl (by rfl) ?_
  refine Z.ls rfl rfl rfl (by rfl) ?_
  refine Z.l rfl rfl (by rfl) (Z.keepS hs) (Z.Yd.pickT rfl rfl) ?_
  refine Z.lnil ?_
  refine Z.only [0, 1, 10] rfl ?_
  refine Z.nthen ?_
  refine Z.cond rfl (fun hc1 => ?_) (fun h => absurd h (by simp))
  refine Z.seq ?_
  refine Z.region ?_
  refine Z.lb 1 rfl ?_
  refine Z.le rfl trivial ?_
  refine Z.ZO.call rfl rfl (by rfl) rfl rfl Try.call35 rfl (bn_none p _ (h.st (hs.sub (List.nil_sublist _)))) ?_
  rintro v2_1 w2_1 ⟨rfl, hy⟩
  replace hs := hs.call hy
  clear hy
  try simp only [List.cons_append, List.nil_append, List.append_nil] at hs
  refine Z.lb 1 rfl ?_
  refine Z.yes (s := 13) (b := true) rfl ((by simp)) rfl ?_
  refine Z.lb 1 rfl ?_
  refine Z.yes (s := 13) (b := true) rfl rfl rfl ?_
  refine Z.le rfl (by exact ⟨rfl, trivial⟩) ?_
  refine Z.ZO.call rfl rfl (by rfl) rfl rfl Try.call35 rfl (bn_none q _ (hq.st (hs.sub (List.nil_sublist _)))) ?_
  rintro v2_4 w2_4 ⟨rfl, hy⟩
  replace hs := hs.call hy
  clear hy
  try simp only [List.cons_append, List.nil_append, List.append_nil] at hs
  refine Z.l rfl rfl (by rfl) (Z.keepS hs) (Z.Yd.pickT rfl rfl) ?_
  refine Z.lb 1 rfl ?_
  refine Z.lnil ?_
  refine Z.only [4] rfl ?_
  refine Z.nthen ?_
  refine Z.ret ?_
  repeat (first | refine Z.rthen ?_ | refine Z.rblock ?_ | refine Z.rscope ?_)
  -- ret#0
  refine Z.out1 (by exact ⟨rfl, trivial⟩) ?_
  first | exact ⟨_, rfl, rfl, hs⟩ | exact ⟨_, rfl, rfl, hs.sub (List.nil_sublist _)⟩
theorem bn_lev (p : Option Addr) (z : Int) (w : World) (h : NonP w p) : Calls Try.prog 24 #[.pointer p, .int .i64 z, .int .i64 0, .bool false] w (SX.Ret fun v w' => v = .bool true ∧ SX.St w [] w' []) := by
  have hs := SX.St.start w
  refine Z.enter Try.func24 rfl Try.ntmps24 rfl rfl ?_
  refine Z.seq ?_
  refine Z.region ?_
  refine Z.lb 1 rfl ?_
  refine Z.lnil ?_
  refine Z.only [0, 1, 2, 3] rfl ?_
  refine Z.nthen ?_
  refine Z.seq ?_
  refine Z.region ?_
  refine Z.lb 2 rfl ?_
  refine Z.le rfl trivial ?_
  refine Z.ZO.call rfl rfl (by rfl) rfl rfl Try.call17 rfl (bn_level p z _ h) ?_
  rintro v1_2 w1_2 ⟨rfl, hy⟩
  replace hs := hs.call hy
  clear hy
  try simp only [List.cons_append, List.nil_append, List.append_nil] at hs
  refine Z.lb 5 rfl ?_
  refine Z.lnil ?_
  refine Z.only [2, 3, 9, 10] rfl ?_
  refine Z.nthen ?_
  refine Z.seq ?_
  refine Z.region ?_
  refine Z.lb 6 rfl ?_
  refine Z.l rfl rfl (by rfl) (Z.keepS hs) (Z.Yd.bin rfl rfl (by intro _ w; go_simp; try rfl)) ?_
  refine Z.lb 2 rfl ?_
  refine Z.lnil ?_
  refine Z.only [8] rfl ?_
  refine Z.nthen ?_
  refine Z.ret ?_
  -- ret#0
  refine Z.out1 (by exact ⟨rfl, trivial⟩) ?_
  exact ⟨_, rfl, by simp, hs⟩
set_option maxHeartbeats 2000000 in
set_option maxRecDepth 100000 in
theorem bucketNone_walk (now size : Int) (A : Option Addr) (n c : Nat) (zero : Bool) (w : World) :
    Calls Try.prog 7 #[.int .i64 now, .int .i64 size, .slice A n c, .bool zero] w (SX.Ret fun v w' => v = .bool true ∧ SX.St w [] w' []) := by
  have hs := SX.St.start w
  refine Z.enterM Try.func7 rfl Try.ntmps7 rfl rfl ?_
  refine Z.seq ?_
  refine Z.region ?_
  refine Z.le rfl trivial ?_
  refine Z.ZO.alloc rfl rfl (by rfl) Try.zeroValue4 rfl hs ?_
  clear hs; intro g8 w8 hs
  refine Z.lnil ?_
  refine Z.only [0, 1, 2, 3, 8] rfl ?_
  refine Z.nthen ?_
  refine Z.seq ?_
  refine Z.seq ?_
  refine Z.region ?_
  refine Z.lb 1 rfl ?_
  refine Z.l rfl rfl (by rfl) (Z.keepS hs) (Z.Yd.lenS rfl Try.underlying28) ?_
  refine Z.lb 1 rfl ?_
  refine Z.lnil ?_
  refine Z.only [0, 1, 2, 3, 8, 15] rfl ?_
  refine Z.nthen ?_
  refine Z.cond rfl (fun hc1 => ?_) (fun hc1 => ?_)
  · first
      | (exfalso; simp at hc1 <;> omega)
      | (
        (try simp at hc1)
        refine Z.seq ?_
        refine Z.region ?_
        refine Z.le rfl trivial ?_
        refine Z.ZO.call rfl rfl (by rfl) rfl rfl Try.call8 rfl (works25 _) ?_
        rintro v2_0 w2_0 ⟨rfl, hy⟩
        replace hs := hs.call hy
        clear hy
        try simp only [List.cons_append, List.nil_append, List.append_nil] at hs
        refine Z.le rfl trivial ?_
        first | refine Z.ZO.store rfl rfl hs Try.sizeOf4 rfl rfl rfl (by first | exact SX.at0 | exact SX.at1 | exact SX.at2 | exact SX.at3 | exact SX.at4 | exact SX.at5 | exact Z.at6 | exact Z.at7 | exact Z.at8 | exact Z.at9 | exact Z.at10 | exact Z.at11 | exact Z.at12) (by first | (simp; done) | (simp; omega)) ?_ | refine Z.ZO.storeR rfl rfl hs Try.sizeOf4 rfl rfl rfl (by first | exact SX.at0 | exact SX.at1 | exact SX.at2 | exact SX.at3 | exact SX.at4 | exact SX.at5 | exact Z.at6 | exact Z.at7 | exact Z.at8 | exact Z.at9 | exact Z.at10 | exact Z.at11 | exact Z.at12) (by first | omega | (simp [ints_length]; done) | (simp [ints_length]; omega)) ?_
        clear hs; intro ws hs
        simp only [Nat.zero_add, Nat.add_zero, Nat.reduceAdd, Int.reduceToNat, Nat.reduceMul, List.set_cons_zero, List.set_cons_succ, List.setIfInBounds_toArray] at hs
        refine Z.lnil ?_
        refine Z.only [8] rfl ?_
        refine Z.nthen ?_
        refine Z.ret ?_
        repeat (first | refine Z.rthen ?_ | refine Z.rblock ?_ | refine Z.rscope ?_)
        -- ret#0
        refine Z.outM0 (vs := [_]) (by exact ⟨⟨_, rfl, Z.rvc hs Try.isAgg4 (by first | ((repeat (first | exact List.mem_cons_self | refine List.mem_cons_of_mem _ ?_ | refine List.mem_append_right _ ?_)); done) | fail) rfl⟩, trivial⟩) ?_
        exact ⟨_, rfl, rfl, hs.sub (List.nil_sublist _)⟩
        )
  · first
      | (exfalso; simp at hc1 <;> omega)
      | (
        (try simp at hc1)
        refine Z.skip ?_
        refine Z.nthen ?_
        refine Z.seq ?_
        refine Z.region ?_
        refine Z.lb 1 rfl ?_
        refine Z.lnil ?_
        refine Z.only [0, 1, 2, 3, 8, 9] rfl ?_
        refine Z.nthen ?_
        refine Z.seq ?_
        refine Z.seq ?_
        refine Z.region ?_
        refine Z.lb 1 rfl ?_
        refine Z.lnil ?_
        refine Z.only [0, 1, 2, 8, 9, 17] rfl ?_
        refine Z.nthen ?_
        refine Z.cutt (ι := Option Addr × List SX.Ent) [0, 1, 2, 8] rfl (fun x => [(9, [], .pointer x.1)]) (fun x wr => (∀ W L, SX.St w [] W L → (∀ e ∈ x.2, e ∈ L) → NonP W x.1) ∧ SX.St w [] wr ([SX.Ent.blk g8 4 #[.bool false]] ++ x.2)) ?_ ?_
        · skip
          refine Z.cond rfl (fun hc4 => ?_) (fun hc4 => ?_)
          · first
              | (exfalso; simp at hc4 <;> omega)
              | (
                (try simp at hc4)
                refine Z.region ?_
                refine Z.l rfl rfl (by rfl) (Z.keepS hs) (Z.Yd.buildL [(0, 1), (1, 1), (2, 1)] [.slice none 0 0, .slice none 0 0, .int .i64 0] rfl rfl (by intro w; kernel_rfl)) ?_
                refine Z.le rfl trivial ?_
                refine Z.ZO.box rfl rfl (by rfl) rfl rfl hs ?_
                clear hs; intro g19 w19 hs
                refine Z.lb 1 rfl ?_
                refine Z.lnil ?_
                refine Z.only [0, 1, 2, 8, 9] rfl ?_
                refine Z.nthen ?_
                first | exact Z.meet (none, []) (by refine ⟨?_, ?_, ?_, ?_, ?_, trivial⟩ <;> (first | rfl | (refine Z.lookv rfl ?_; simp; done) | (refine Z.lookv rfl ?_; simp; omega))) ⟨fun _ _ _ _ => .inl rfl, hs⟩ | exact Z.meet (some ⟨g19, 0, none⟩, [SX.Ent.blk g19 63 #[.slice none 0 0, .slice none 0 0, .int .i64 0]]) (by refine ⟨?_, ?_, ?_, ?_, ?_, trivial⟩ <;> (first | rfl | (refine Z.lookv rfl ?_; simp; done) | (refine Z.lookv rfl ?_; simp; omega))) ⟨fun W L hW hL => .inr ⟨g19, rfl, hW.celOf (T := 63) (cs := [_, _, _]) (hL _ List.mem_cons_self)⟩, hs.sel [1, 0] (by decide)⟩
                )
          · first
              | (exfalso; simp at hc4 <;> omega)
              | (
                (try simp at hc4)
                refine Z.skip ?_
                refine Z.nthen ?_
                first | exact Z.meet (none, []) (by refine ⟨?_, ?_, ?_, ?_, ?_, trivial⟩ <;> (first | rfl | (refine Z.lookv rfl ?_; simp; done) | (refine Z.lookv rfl ?_; simp; omega))) ⟨fun _ _ _ _ => .inl rfl, hs⟩ | exact Z.meet (some ⟨g19, 0, none⟩, [SX.Ent.blk g19 63 #[.slice none 0 0, .slice none 0 0, .int .i64 0]]) (by refine ⟨?_, ?_, ?_, ?_, ?_, trivial⟩ <;> (first | rfl | (refine Z.lookv rfl ?_; simp; done) | (refine Z.lookv rfl ?_; simp; omega))) ⟨fun W L hW hL => .inr ⟨g19, rfl, hW.celOf (T := 63) (cs := [_, _, _]) (hL _ List.mem_cons_self)⟩, hs.sel [1, 0] (by decide)⟩
                )
        · clear hs
          rintro ⟨p, Lp⟩ w4 ⟨hN, hs⟩
          refine Z.only [0, 1, 2, 8, 9] rfl ?_
          (try dsimp only at hs)
          dsimp only at hN hs
          refine Z.seq ?_
          refine Z.region ?_
          refine Z.lb 3 rfl ?_
          refine Z.le rfl trivial ?_
          refine Z.ZO.call rfl rfl (by rfl) rfl rfl Try.call18 rfl (bn_divide p A size n c _ (hN _ _ hs (fun e he ↦ by simp [he]))) ?_
          rintro v6_3 w6_3 ⟨rfl, hy⟩
          replace hs := hs.call hy
          clear hy
          try simp only [List.cons_append, List.nil_append, List.append_nil] at hs
          refine Z.lb 5 rfl ?_
          refine Z.lnil ?_
          refine Z.only [0, 1, 8, 9, 10, 11] rfl ?_
          refine Z.nthen ?_
          refine Z.seq ?_
          refine Z.region ?_
          refine Z.lb 1 rfl ?_
          refine Z.le rfl trivial ?_
          refine Z.ZO.call rfl rfl (by rfl) rfl rfl Try.call12 rfl (bn_order p _ (hN _ _ hs (fun e he ↦ by simp [he]))) ?_
          rintro v7_1 w7_1 ⟨gg, rfl, hy⟩
          replace hs := hs.call hy
          clear hy
          try simp only [List.cons_append, List.nil_append, List.append_nil] at hs
          refine Z.lb 1 rfl ?_
          refine Z.lnil ?_
          refine Z.only [0, 1, 8, 9, 10, 11, 12] rfl ?_
          refine Z.nthen ?_
          refine Z.seq ?_
          refine Z.seq ?_
          refine Z.region ?_
          refine Z.lb 1 rfl ?_
          refine Z.l rfl rfl (by rfl) (Z.keepS hs) (Z.Yd.fnNil rfl rfl Try.underlying35) ?_
          refine Z.lnil ?_
          refine Z.only [0, 1, 8, 9, 10, 11, 12, 30] rfl ?_
          refine Z.nthen ?_
          refine Z.cond rfl (fun h => absurd h (by simp)) (fun hc8 => ?_)
          refine Z.skip ?_
          refine Z.nthen ?_
          refine Z.seq ?_
          refine Z.seq ?_
          refine Z.region ?_
          replace hs : SX.St w [] w7_1 ((SX.Ent.blk g8 4 #[.bool false] :: Lp) ++ [SX.Ent.blk gg 22 #[.slice none 0 0], SX.Ent.row (.slice none 0 0) 38 5 0 (([] : List LgV).flatMap LgV.cells)]) := by
            have h0 : SX.St w [] w7_1 ([SX.Ent.blk gg 22 #[.slice none 0 0], SX.Ent.row (.slice none 0 0) 38 5 0 (([] : List LgV).flatMap LgV.cells)] ++ (SX.Ent.blk g8 4 #[.bool false] :: Lp)) := SX.St.selT (L1 := [_, _, _]) (hs.nil 38 5) [1, 0, 2] (by decide)
            exact h0.rot
          refine Z.l rfl rfl (by rfl) (Z.keepS hs) (Z.Yd.pure rfl) ?_
          refine Z.lnil ?_
          refine Z.only [0, 1, 8, 9, 10, 11, 31] rfl ?_
          refine Z.nthen ?_
          refine Z.block ?_
          refine Z.rangeFunc (ps := [32, 33]) (L0 := (SX.Ent.blk g8 4 #[.bool false] :: Lp)) (order_seq gg _ 0 (.slice none 0 0) [] rfl (by omega)) rfl Try.call36 (hs) trivial (by rintro x args Lx ⟨rfl, rfl⟩; rfl) rfl (fun pre L => L = SX.Ent.blk g8 4 #[.bool false] :: Lp) (fun _ _ => False) rfl ?_ ?_ ?_
          · clear hs
            rintro l0 Z0 pre x args W0 L0 Lx rfl hpre ⟨rfl, rfl⟩ hs
            refine ⟨_, rfl, ?_⟩
            refine Z.skip ?_
            refine Z.nthen ?_
            refine Z.assigned _ hs ?_
            clear hs
            intro Wb0 Zb0 hs
            refine Z.block ?_
            refine Z.seq ?_
            refine Z.region ?_
            exact absurd hpre.length_le (by simp)
          · clear hs
            rintro Dd W0 L0 hi hs
            subst hi
            refine Z.nblock ?_
            refine Z.nthen ?_
            refine Z.seq ?_
            refine Z.region ?_
            refine Z.lb 1 rfl ?_
            refine Z.l rfl rfl (by rfl) (Z.keepS hs) (Z.Yd.lenS rfl Try.underlying28) ?_
            refine Z.lb 2 rfl ?_
            refine Z.yes (s := 37) (b := true) rfl ((by simp)) rfl ?_
            refine Z.lb 1 rfl ?_
            refine Z.yes (s := 37) (b := true) rfl rfl rfl ?_
            refine Z.le rfl (by exact ⟨rfl, trivial⟩) ?_
            refine Z.ZO.call rfl rfl (by rfl) rfl rfl Try.call15 rfl (bk_num _ _) ?_
            rintro v12_5 w12_5 ⟨rfl, hy⟩
            replace hs := hs.call hy
            clear hy
            try simp only [List.cons_append, List.nil_append, List.append_nil] at hs
            refine Z.lb 1 rfl ?_
            refine Z.yes (s := 37) (b := true) rfl rfl rfl ?_
            refine Z.l rfl rfl (by rfl) (Z.keepS hs) (Z.Yd.pickT rfl rfl) ?_
            refine Z.lb 1 rfl ?_
            refine Z.yes (s := 42) (b := true) rfl ((by simp)) rfl ?_
            refine Z.lb 2 rfl ?_
            refine Z.yes (s := 42) (b := true) rfl rfl rfl ?_
            refine Z.le rfl (by exact ⟨rfl, trivial⟩) ?_
            refine Z.ZO.call rfl rfl (by rfl) rfl rfl Try.call14 rfl (bn_tick p now _ (hN _ _ hs (fun e he ↦ by simp [he]))) ?_
            rintro v12_11 w12_11 ⟨rfl, hy⟩
            replace hs := hs.call hy
            clear hy
            try simp only [List.cons_append, List.nil_append, List.append_nil] at hs
            refine Z.le rfl (by exact ⟨rfl, trivial⟩) ?_
            refine Z.ZO.call rfl rfl (by rfl) rfl rfl Try.call15 rfl (bk_num _ _) ?_
            rintro v12_12 w12_12 ⟨rfl, hy⟩
            replace hs := hs.call hy
            clear hy
            try simp only [List.cons_append, List.nil_append, List.append_nil] at hs
            refine Z.lb 1 rfl ?_
            refine Z.yes (s := 42) (b := true) rfl rfl rfl ?_
            refine Z.l rfl rfl (by rfl) (Z.keepS hs) (Z.Yd.pickT rfl rfl) ?_
            refine Z.lb 1 rfl ?_
            refine Z.yes (s := 49) (b := true) rfl ((by simp)) rfl ?_
            refine Z.lb 2 rfl ?_
            refine Z.yes (s := 49) (b := true) rfl rfl rfl ?_
            refine Z.le rfl (by exact ⟨rfl, trivial⟩) ?_
            refine Z.ZO.call rfl rfl (by rfl) rfl rfl Try.call24 rfl (bn_lev p size _ (hN _ _ hs (fun e he ↦ by simp [he]))) ?_
            rintro v12_18 w12_18 ⟨rfl, hy⟩
            replace hs := hs.call hy
            clear hy
            try simp only [List.cons_append, List.nil_append, List.append_nil] at hs
            refine Z.l rfl rfl (by rfl) (Z.keepS hs) (Z.Yd.pickT rfl rfl) ?_
            refine Z.lb 1 rfl ?_
            refine Z.yes (s := 54) (b := true) rfl ((by simp)) rfl ?_
            refine Z.lb 1 rfl ?_
            refine Z.yes (s := 54) (b := true) rfl rfl rfl ?_
            refine Z.le rfl (by exact ⟨rfl, trivial⟩) ?_
            refine Z.ZO.call rfl rfl (by rfl) rfl rfl Try.call25 rfl (bn_now p _ (hN _ _ hs (fun e he ↦ by simp [he]))) ?_
            rintro v12_22 w12_22 ⟨rfl, hy⟩
            replace hs := hs.call hy
            clear hy
            try simp only [List.cons_append, List.nil_append, List.append_nil] at hs
            refine Z.lb 1 rfl ?_
            refine Z.yes (s := 54) (b := true) rfl rfl rfl ?_
            refine Z.l rfl rfl (by rfl) (Z.keepS hs) (Z.Yd.pickT rfl rfl) ?_
            refine Z.lb 1 rfl ?_
            refine Z.yes (s := 59) (b := true) rfl ((by simp)) rfl ?_
            refine Z.lb 1 rfl ?_
            refine Z.yes (s := 59) (b := true) rfl rfl rfl ?_
            refine Z.le rfl (by exact ⟨rfl, trivial⟩) ?_
            refine Z.ZO.call rfl rfl (by rfl) rfl rfl Try.call22 rfl (bn_copy p _ (hN _ _ hs (fun e he ↦ by simp [he]))) ?_
            rintro v12_27 w12_27 ⟨rfl, hy⟩
            replace hs := hs.call hy
            clear hy
            try simp only [List.cons_append, List.nil_append, List.append_nil] at hs
            refine Z.l rfl rfl (by rfl) (Z.keepS hs) (Z.Yd.ptrNil rfl rfl Try.underlying24) ?_
            refine Z.yes (s := 59) (b := true) rfl rfl rfl ?_
            refine Z.l rfl rfl (by rfl) (Z.keepS hs) (Z.Yd.pickT rfl rfl) ?_
            refine Z.lb 1 rfl ?_
            refine Z.yes (s := 64) (b := true) rfl ((by simp)) rfl ?_
            refine Z.lb 1 rfl ?_
            refine Z.yes (s := 64) (b := true) rfl rfl rfl ?_
            refine Z.le rfl (by exact ⟨rfl, trivial⟩) ?_
            refine Z.ZO.call rfl rfl (by rfl) rfl rfl Try.call16 rfl (bn_same p none _ (hN _ _ hs (fun e he ↦ by simp [he])) (.inl rfl)) ?_
            rintro v12_32 w12_32 ⟨rfl, hy⟩
            replace hs := hs.call hy
            clear hy
            try simp only [List.cons_append, List.nil_append, List.append_nil] at hs
            refine Z.l rfl rfl (by rfl) (Z.keepS hs) (Z.Yd.pickT rfl rfl) ?_
            refine Z.lb 1 rfl ?_
            refine Z.yes (s := 68) (b := true) rfl ((by simp)) rfl ?_
            refine Z.le rfl (by exact ⟨rfl, trivial⟩) ?_
            refine Z.ZO.call rfl rfl (by rfl) rfl rfl Try.call8 rfl (works25 _) ?_
            rintro v12_35 w12_35 ⟨rfl, hy⟩
            replace hs := hs.call hy
            clear hy
            try simp only [List.cons_append, List.nil_append, List.append_nil] at hs
            refine Z.l rfl rfl (by rfl) (Z.keepS hs) (Z.Yd.pickT rfl rfl) ?_
            refine Z.le rfl trivial ?_
            first | refine Z.ZO.store rfl rfl hs Try.sizeOf4 rfl rfl rfl (by first | exact SX.at0 | exact SX.at1 | exact SX.at2 | exact SX.at3 | exact SX.at4 | exact SX.at5 | exact Z.at6 | exact Z.at7 | exact Z.at8 | exact Z.at9 | exact Z.at10 | exact Z.at11 | exact Z.at12) (by first | (simp; done) | (simp; omega)) ?_ | refine Z.ZO.storeR rfl rfl hs Try.sizeOf4 rfl rfl rfl (by first | exact SX.at0 | exact SX.at1 | exact SX.at2 | exact SX.at3 | exact SX.at4 | exact SX.at5 | exact Z.at6 | exact Z.at7 | exact Z.at8 | exact Z.at9 | exact Z.at10 | exact Z.at11 | exact Z.at12) (by first | omega | (simp [ints_length]; done) | (simp [ints_length]; omega)) ?_
            clear hs; intro ws hs
            simp only [Nat.zero_add, Nat.add_zero, Nat.reduceAdd, Int.reduceToNat, Nat.reduceMul, List.set_cons_zero, List.set_cons_succ, List.setIfInBounds_toArray] at hs
            refine Z.lnil ?_
            refine Z.only [8] rfl ?_
            refine Z.nthen ?_
            refine Z.ret ?_
            -- ret#1
            refine Z.outM1 (vs := [_]) (show SX.St w [] _ ((_ :: Lp) ++ SX.Ent.obj Dd (.deferred (some [])) :: [_, _]) from hs) (fun wr hs => (by exact ⟨⟨_, rfl, Z.rvc hs Try.isAgg4 (by first | ((repeat (first | exact List.mem_cons_self | refine List.mem_cons_of_mem _ ?_ | refine List.mem_append_right _ ?_)); done) | fail) rfl⟩, trivial⟩)) (by exact ⟨⟨_, rfl, Z.rvc hs Try.isAgg4 (by first | ((repeat (first | exact List.mem_cons_self | refine List.mem_cons_of_mem _ ?_ | refine List.mem_append_right _ ?_)); done) | fail) rfl⟩, trivial⟩) ?_
            clear hs
            intro wr hs
            exact ⟨_, rfl, rfl, hs.sub (List.nil_sublist _)⟩
          · clear hs
            rintro Dd c W0 L0 hi hs
            exact hi.elim
        )
theorem bucketNone_rd (a0 : Int) (a1 : Int) (a2 : Option Addr) (len2 cap2 : Nat) (a3 : Bool) (w : World) (z0 : Rd Try.prog w 3 (Value.int .i64 a0).cells.toList) (z1 : Rd Try.prog w 3 (Value.int .i64 a1).cells.toList) (z2 : Rd Try.prog w 28 (Value.slice a2 len2 cap2).cells.toList) (z3 : Rd Try.prog w 4 (Value.bool a3).cells.toList) :
    Calls Try.prog 7 #[.int .i64 a0, .int .i64 a1, .slice a2 len2 cap2, .bool a3] w fun e w' => e = .returned (.bool true) ∧ Below w.heap.size w w' := by
  refine (bucketNone_walk a0 a1 a2 len2 cap2 a3 w).mono ?_
  rintro e w' ⟨v, rfl, rfl, h⟩
  exact ⟨rfl, h.below⟩
end Go.Proofs.Ythdhobnkclddhaa

/- What every row needs. -/
namespace Go.Proofs.Ythdhobnkclddhaa
open Go.ChangeShapes Go.WideShapes Go.ChangeAt Go.RowKit
theorem pown : ownKnob Try.prog.godebug = none := by kernel_rfl
theorem plaidOut : laidOutB Try.prog = true := by kernel_rfl
end Go.Proofs.Ythdhobnkclddhaa
