/- Bytes compared; hard decisions. -/
import Derived.Test.YthncbdoiilgnhaaQmR
import Derived.Test.YthncbdoiilgnhaaZd
namespace Go.Proofs.Ythncbdoiilgnhaa
open Go.RowKit
set_option linter.unusedSimpArgs false
set_option linter.unusedVariables false

theorem sameB_any (A B : Option Addr) (n m c d : Nat) (xs ys : List Int) (w : World) (hx : Sl w A (ints .u8 xs)) (hy : Sl w B (ints .u8 ys)) (hl : xs.length = n) (hk : ys.length = m) (he : xs = ys) (hn : n ≤ 1000000) :
    Calls Try.prog 21 #[.slice A n c, .slice B m d] w (SX.Ret fun r w' => r = .bool true ∧ SX.St w [] w' []) := by
  have hs := SX.St.start w
  subst he
  obtain rfl : n = m := by omega
  refine Z.enter Try.func21 rfl Try.ntmps21 rfl rfl ?_
  refine Z.seq ?_
  refine Z.region ?_
  refine Z.lb 1 rfl ?_
  refine Z.lnil ?_
  refine Z.only [0, 1] rfl ?_
  refine Z.nthen ?_
  refine Z.seq ?_
  refine Z.seq ?_
  refine Z.region ?_
  refine Z.lb 1 rfl ?_
  refine Z.l rfl rfl (by rfl) (Z.keepS hs) (Z.Yd.lenS rfl Try.underlying23) ?_
  refine Z.lb 1 rfl ?_
  refine Z.l rfl rfl (by rfl) (Z.keepS hs) (Z.Yd.lenS rfl Try.underlying23) ?_
  refine Z.lb 1 rfl ?_
  refine Z.lnil ?_
  refine Z.only [0, 1, 10] rfl ?_
  refine Z.nthen ?_
  refine Z.cond rfl (fun h => absurd h (by simp)) (fun hc1 => ?_)
  refine Z.skip ?_
  refine Z.nthen ?_
  refine Z.seq ?_
  refine Z.seq ?_
  refine Z.region ?_
  refine Z.lb 1 rfl ?_
  refine Z.lnil ?_
  refine Z.only [0, 1, 5] rfl ?_
  refine Z.nthen ?_
  refine Z.block ?_
  refine Z.loopk (ι := Nat) [0, 1] rfl (fun k => [(5, [], .int .i64 (k : Int))]) (fun k wr => k ≤ n ∧ SX.St w [] wr []) (fun k => n - k) 0 (by refine ⟨?_, trivial⟩ <;> (first | rfl | (refine Z.lookv rfl ?_; simp; done) | (refine Z.lookv rfl ?_; simp; omega))) ⟨by omega, hs⟩ ?_
  clear hs
  rintro k w1 ⟨hkn, hs⟩
  refine Z.only [0, 1, 5] rfl ?_
  refine Z.seq ?_
  refine Z.seq ?_
  refine Z.region ?_
  refine Z.lb 2 rfl ?_
  refine Z.l rfl rfl (by rfl) (Z.keepS hs) (Z.Yd.lenS rfl Try.underlying23) ?_
  refine Z.lb 1 rfl ?_
  refine Z.lnil ?_
  refine Z.only [0, 1, 5, 14] rfl ?_
  refine Z.nthen ?_
  refine Z.cond rfl (fun hc4 => ?_) (fun hc4 => ?_)
  · first
      | (exfalso; simp at hc4 <;> omega)
      | (
        (try simp at hc4)
        obtain ⟨b, off, rfl, hb, hx⟩ := Z.Sl.some hx (by simp [ints]; omega)
        obtain ⟨b2, off2, rfl, hb2, hy⟩ := Z.Sl.some hy (by simp [ints]; omega)
        refine Z.skip ?_
        refine Z.nthen ?_
        refine Z.seq ?_
        refine Z.block ?_
        refine Z.seq ?_
        refine Z.drawK (fun _ => true) mixed hs ?_
        clear hs; intro wd6 hs
        refine Z.tb [0, 1] (by kernel_rfl) rfl ⟨_, hs, by first | (simp; done) | exact fun e he => List.mem_append_right _ he⟩ rfl ?_
        refine Z.t 2 rfl rfl rfl (by rfl) (by kernel_rfl) ⟨_, hs, by first | (simp; done) | exact fun e he => List.mem_append_right _ he⟩ (Z.Yd.elem rfl rfl Try.underlying23 Try.sizeOf5 (fun hG => ⟨(by first | omega | (have hG' := Z.gh rfl hG; simp at hG'; omega)), (by first | omega | (have hG' := Z.gh rfl hG; simp at hG'; omega))⟩)) ?_
        refine Z.t 3 rfl rfl rfl (by rfl) (by kernel_rfl) ⟨_, hs, by first | (simp; done) | exact fun e he => List.mem_append_right _ he⟩ (Z.Yd.load rfl Try.isAgg5 (fun _ => Z.cellS hx rfl (by first | omega | (have hG' := Z.gh rfl hG; simp at hG'; omega)) (by first | omega | (have hG' := Z.gh rfl hG; simp at hG'; omega)))) ?_
        refine Z.tb [4, 5] (by kernel_rfl) rfl ⟨_, hs, by first | (simp; done) | exact fun e he => List.mem_append_right _ he⟩ rfl ?_
        refine Z.t 6 rfl rfl rfl (by rfl) (by kernel_rfl) ⟨_, hs, by first | (simp; done) | exact fun e he => List.mem_append_right _ he⟩ (Z.Yd.elem rfl rfl Try.underlying23 Try.sizeOf5 (fun hG => ⟨(by first | omega | (have hG' := Z.gh rfl hG; simp at hG'; omega)), (by first | omega | (have hG' := Z.gh rfl hG; simp at hG'; omega))⟩)) ?_
        refine Z.t 7 rfl rfl rfl (by rfl) (by kernel_rfl) ⟨_, hs, by first | (simp; done) | exact fun e he => List.mem_append_right _ he⟩ (Z.Yd.load rfl Try.isAgg5 (fun _ => Z.cellS hy rfl (by first | omega | (have hG' := Z.gh rfl hG; simp at hG'; omega)) (by first | omega | (have hG' := Z.gh rfl hG; simp at hG'; omega)))) ?_
        refine Z.tb [8] (by kernel_rfl) rfl ⟨_, hs, by first | (simp; done) | exact fun e he => List.mem_append_right _ he⟩ rfl ?_
        refine Z.td (by rfl) (by kernel_rfl) ?_
        refine Z.only [0, 1, 5, 25] rfl ?_
        refine Z.nthen ?_
        refine Z.cond rfl (fun h => absurd h (by simp)) (fun hc6 => ?_)
        refine Z.skip ?_
        refine Z.nblock ?_
        refine Z.nthen ?_
        refine Z.region ?_
        refine Z.lb 1 rfl ?_
        refine Z.l rfl rfl (by rfl) (Z.keepS hs) (Z.Yd.add rfl rfl (fun hG => Z.wi64 (by first | omega | (have hG' := Z.gh rfl hG; simp at hG'; omega)))) ?_
        refine Z.lb 1 rfl ?_
        refine Z.lnil ?_
        refine Z.only [0, 1, 5] rfl ?_
        refine Z.nthen ?_
        exact Z.again (k + 1) (by refine ⟨?_, ?_, ?_, trivial⟩ <;> (first | rfl | (refine Z.lookv rfl ?_; simp; done) | (refine Z.lookv rfl ?_; simp; omega))) ⟨by omega, hs⟩ (by omega)
        )
  · first
      | (exfalso; simp at hc4 <;> omega)
      | (
        (try simp at hc4)
        refine Z.exit ?_
        refine Z.xthen ?_
        refine Z.xthen ?_
        refine Z.xblock ?_
        refine Z.nthen ?_
        refine Z.seq ?_
        refine Z.region ?_
        refine Z.lb 1 rfl ?_
        refine Z.lnil ?_
        refine Z.only [4] rfl ?_
        refine Z.nthen ?_
        refine Z.ret ?_
        -- ret#0
        refine Z.out1 (by exact ⟨rfl, trivial⟩) ?_
        first | exact ⟨_, rfl, rfl, hs⟩ | exact ⟨_, rfl, rfl, hs.sub (List.nil_sublist _)⟩
        )
theorem arg_true (w : World) : Calls Try.prog 48 #[.bool true] w (SX.Ret fun r w' => r = .int .i64 0 ∧ SX.St w [] w' []) := by
  have hs := SX.St.start w
  refine Z.enter Try.func48 rfl Try.ntmps48 rfl rfl ?_
  refine Z.seq ?_
  refine Z.region ?_
  refine Z.lb 1 rfl ?_
  refine Z.lnil ?_
  refine Z.only [0] rfl ?_
  refine Z.nthen ?_
  refine Z.seq ?_
  refine Z.seq ?_
  refine Z.region ?_
  refine Z.lb 1 rfl ?_
  refine Z.lnil ?_
  refine Z.only [3] rfl ?_
  refine Z.nthen ?_
  refine Z.cond rfl (fun hc1 => ?_) (fun hc1 => ?_)
  · first
      | (exfalso; simp at hc1 <;> omega)
      | (
        (try simp at hc1)
        refine Z.seq ?_
        refine Z.region ?_
        refine Z.lb 1 rfl ?_
        refine Z.lnil ?_
        refine Z.only [2] rfl ?_
        refine Z.nthen ?_
        refine Z.ret ?_
        repeat (first | refine Z.rthen ?_ | refine Z.rblock ?_ | refine Z.rscope ?_)
        -- ret#0
        refine Z.out1 (by exact ⟨rfl, trivial⟩) ?_
        first | exact ⟨_, rfl, rfl, hs⟩ | exact ⟨_, rfl, rfl, hs.sub (List.nil_sublist _)⟩
        )
  · first
      | (exfalso; simp at hc1 <;> omega)
      | (
        (try simp at hc1)
        refine Z.skip ?_
        refine Z.nthen ?_
        refine Z.seq ?_
        refine Z.region ?_
        refine Z.lb 1 rfl ?_
        refine Z.lnil ?_
        refine Z.only [2] rfl ?_
        refine Z.nthen ?_
        refine Z.ret ?_
        -- ret#1
        refine Z.out1 (by exact ⟨rfl, trivial⟩) ?_
        first | exact ⟨_, rfl, rfl, hs⟩ | exact ⟨_, rfl, rfl, hs.sub (List.nil_sublist _)⟩
        )

def sgn (x : Int) : Int := if x < 0 then 1 else 0
theorem sign_any (x : Int) (w : World) : Calls Try.prog 51 #[.int .i64 x] w (SX.Ret fun r w' => r = .int .u8 (sgn x) ∧ SX.St w [] w' []) := by
  have hs := SX.St.start w
  refine Z.enter Try.func51 rfl Try.ntmps51 rfl rfl ?_
  refine Z.seq ?_
  refine Z.region ?_
  refine Z.lb 1 rfl ?_
  refine Z.lnil ?_
  refine Z.only [0] rfl ?_
  refine Z.nthen ?_
  refine Z.seq ?_
  refine Z.seq ?_
  refine Z.region ?_
  refine Z.lb 2 rfl ?_
  refine Z.lnil ?_
  refine Z.only [4] rfl ?_
  refine Z.nthen ?_
  refine Z.cond rfl (fun hc1 => ?_) (fun hc1 => ?_)
  · first
      | (exfalso; simp at hc1 <;> omega)
      | (
        (try simp at hc1)
        refine Z.seq ?_
        refine Z.region ?_
        refine Z.lb 1 rfl ?_
        refine Z.lnil ?_
        refine Z.only [2] rfl ?_
        refine Z.nthen ?_
        refine Z.ret ?_
        repeat (first | refine Z.rthen ?_ | refine Z.rblock ?_ | refine Z.rscope ?_)
        -- ret#0
        refine Z.out1 (by exact ⟨rfl, trivial⟩) ?_
        exact ⟨_, rfl, by unfold sgn; rw [if_pos hc1], hs⟩
        )
  · first
      | (exfalso; simp at hc1 <;> omega)
      | (
        (try simp at hc1)
        refine Z.skip ?_
        refine Z.nthen ?_
        refine Z.seq ?_
        refine Z.region ?_
        refine Z.lb 1 rfl ?_
        refine Z.lnil ?_
        refine Z.only [2] rfl ?_
        refine Z.nthen ?_
        refine Z.ret ?_
        -- ret#1
        refine Z.out1 (by exact ⟨rfl, trivial⟩) ?_
        exact ⟨_, rfl, by unfold sgn; rw [if_neg (by omega)], hs⟩
        )
def soft8 (x : Int) : Prop := -127 ≤ x ∧ x ≤ 127
theorem clampv_id {x : Int} (h : soft8 x) : clampv x = x := by unfold clampv soft8 at *; omega
theorem valid1_any (x : Int) (w : World) (h : soft8 x) : Calls Try.prog 69 #[.int .i64 x] w (SX.Ret fun r w' => r = .bool false ∧ SX.St w [] w' []) := by
  have hs := SX.St.start w
  have hc := clampv_id h
  refine Z.enter Try.func69 rfl Try.ntmps69 rfl rfl ?_
  refine Z.seq ?_
  refine Z.region ?_
  refine Z.lb 1 rfl ?_
  refine Z.lnil ?_
  refine Z.only [0] rfl ?_
  refine Z.nthen ?_
  refine Z.seq ?_
  refine Z.region ?_
  refine Z.lb 1 rfl ?_
  refine Z.le rfl trivial ?_
  refine Z.ZO.call rfl rfl (by rfl) rfl rfl Try.call46 rfl (clamp_any x _) ?_
  rintro v1_1 w1_1 ⟨rfl, hy⟩
  replace hs := hs.call hy
  clear hy
  try simp only [List.cons_append, List.nil_append, List.append_nil] at hs
  refine Z.lb 3 rfl ?_
  refine Z.lnil ?_
  refine Z.only [2] rfl ?_
  refine Z.nthen ?_
  refine Z.ret ?_
  -- ret#0
  refine Z.out1 (by exact ⟨rfl, trivial⟩) ?_
  exact ⟨_, rfl, by simp [hc], hs⟩
theorem index_soft (A : Option Addr) (n c : Nat) (l : List Int) (w : World) (hx : Sl w A (ints .i64 l)) (hl : l.length = n) (hn : n ≤ 1000000) (hs8 : ∀ x ∈ l, soft8 x) :
    Calls Try.prog 76 #[.slice A n c, .func (.func 69) #[] #[]] w (SX.Ret fun r w' => r = .int .i64 (-1) ∧ SX.St w [] w' []) := by
  have hs := SX.St.start w
  refine Z.enter Try.func76 rfl Try.ntmps76 rfl rfl ?_
  refine Z.seq ?_
  refine Z.region ?_
  refine Z.lb 1 rfl ?_
  refine Z.lnil ?_
  refine Z.only [0, 1] rfl ?_
  refine Z.nthen ?_
  refine Z.seq ?_
  refine Z.seq ?_
  refine Z.region ?_
  refine Z.lb 1 rfl ?_
  refine Z.l rfl rfl (by rfl) (Z.keepS hs) (Z.Yd.lenS rfl Try.underlying83) ?_
  refine Z.lb 1 rfl ?_
  refine Z.lnil ?_
  refine Z.only [0, 1, 7, 8] rfl ?_
  refine Z.nthen ?_
  refine Z.block ?_
  refine Z.loopk (ι := Nat) [0, 1, 7] rfl (fun k => [(8, [], .int .i64 (k : Int))]) (fun k wr => k ≤ n ∧ SX.St w [] wr []) (fun k => n - k) 0 (by refine ⟨?_, trivial⟩ <;> (first | rfl | (refine Z.lookv rfl ?_; simp; done) | (refine Z.lookv rfl ?_; simp; omega))) ⟨by omega, hs⟩ ?_
  clear hs
  rintro k w1 ⟨hkn, hs⟩
  refine Z.only [0, 1, 7, 8] rfl ?_
  refine Z.seq ?_
  refine Z.region ?_
  refine Z.lb 1 rfl ?_
  refine Z.lnil ?_
  refine Z.only [0, 1, 7, 8, 9] rfl ?_
  refine Z.nthen ?_
  refine Z.seq ?_
  refine Z.cond rfl (fun hc2 => ?_) (fun hc2 => ?_)
  · first
      | (exfalso; simp at hc2 <;> omega)
      | (
        (try simp at hc2)
        obtain ⟨b, off, rfl, hb, hx⟩ := Z.Sl.some hx (by simp [ints]; omega)
        have he := hs8 _ (Z.elt_mem (l := l) (z := (k : Int)) (by omega) (by omega))
        refine Z.skip ?_
        refine Z.nthen ?_
        refine Z.seq ?_
        refine Z.block ?_
        refine Z.seq ?_
        refine Z.region ?_
        refine Z.lb 2 rfl ?_
        refine Z.lnil ?_
        refine Z.only [0, 1, 5, 7, 8] rfl ?_
        refine Z.nthen ?_
        refine Z.seq ?_
        refine Z.region ?_
        refine Z.lb 3 rfl ?_
        refine Z.l rfl rfl (by rfl) (Z.keepS hs) (Z.Yd.elem rfl rfl Try.underlying83 Try.sizeOf3 (fun hG => ⟨(by first | omega | (have hG' := Z.gh rfl hG; simp at hG'; omega)), (by first | omega | (have hG' := Z.gh rfl hG; simp at hG'; omega))⟩)) ?_
        refine Z.l rfl rfl (by rfl) (Z.keepS hs) (Z.Yd.load rfl Try.isAgg3 (fun _ => Z.cellS hx rfl (by first | omega | (have hG' := Z.gh rfl hG; simp at hG'; omega)) (by first | omega | (have hG' := Z.gh rfl hG; simp at hG'; omega)))) ?_
        refine Z.le rfl trivial ?_
        refine Z.ZO.call rfl rfl (by rfl) rfl rfl Try.call69 rfl (valid1_any _ _ he) ?_
        rintro v4_5 w4_5 ⟨rfl, hy⟩
        replace hs := hs.call hy
        clear hy
        try simp only [List.cons_append, List.nil_append, List.append_nil] at hs
        refine Z.lnil ?_
        refine Z.only [0, 1, 5, 7, 8, 16] rfl ?_
        refine Z.nthen ?_
        refine Z.cond rfl (fun h => absurd h (by simp)) (fun hc4 => ?_)
        refine Z.skip ?_
        refine Z.nblock ?_
        refine Z.nthen ?_
        refine Z.region ?_
        refine Z.l rfl rfl (by rfl) (Z.keepS hs) (Z.Yd.add rfl rfl (fun hG => Z.wi64 (by first | omega | (have hG' := Z.gh rfl hG; simp at hG'; omega)))) ?_
        refine Z.lb 1 rfl ?_
        refine Z.lnil ?_
        refine Z.only [0, 1, 7, 8] rfl ?_
        refine Z.nthen ?_
        exact Z.again (k + 1) (by refine ⟨?_, ?_, ?_, ?_, trivial⟩ <;> (first | rfl | (refine Z.lookv rfl ?_; simp; done) | (refine Z.lookv rfl ?_; simp; omega))) ⟨by omega, hs⟩ (by omega)
        )
  · first
      | (exfalso; simp at hc2 <;> omega)
      | (
        (try simp at hc2)
        refine Z.exit ?_
        refine Z.xthen ?_
        refine Z.xthen ?_
        refine Z.xblock ?_
        refine Z.nthen ?_
        refine Z.seq ?_
        refine Z.region ?_
        refine Z.lb 1 rfl ?_
        refine Z.lnil ?_
        refine Z.only [4] rfl ?_
        refine Z.nthen ?_
        refine Z.ret ?_
        -- ret#0
        refine Z.out1 (by exact ⟨rfl, trivial⟩) ?_
        first | exact ⟨_, rfl, rfl, hs⟩ | exact ⟨_, rfl, rfl, hs.sub (List.nil_sublist _)⟩
        )
theorem contains_soft (A : Option Addr) (n c : Nat) (l : List Int) (w : World) (hx : Sl w A (ints .i64 l)) (hl : l.length = n) (hn : n ≤ 1000000) (hs8 : ∀ x ∈ l, soft8 x) :
    Calls Try.prog 68 #[.slice A n c, .func (.func 69) #[] #[]] w (SX.Ret fun r w' => r = .bool false ∧ SX.St w [] w' []) := by
  have hs := SX.St.start w
  refine Z.enter Try.func68 rfl Try.ntmps68 rfl rfl ?_
  refine Z.seq ?_
  refine Z.region ?_
  refine Z.lb 1 rfl ?_
  refine Z.lnil ?_
  refine Z.only [0, 1] rfl ?_
  refine Z.nthen ?_
  refine Z.seq ?_
  refine Z.region ?_
  refine Z.lb 2 rfl ?_
  refine Z.le rfl trivial ?_
  refine Z.ZO.call rfl rfl (by rfl) rfl rfl Try.call76 rfl (index_soft A n c l _ hx hl hn hs8) ?_
  rintro v1_2 w1_2 ⟨rfl, hy⟩
  replace hs := hs.call hy
  clear hy
  try simp only [List.cons_append, List.nil_append, List.append_nil] at hs
  refine Z.lb 2 rfl ?_
  refine Z.lnil ?_
  refine Z.only [4] rfl ?_
  refine Z.nthen ?_
  refine Z.ret ?_
  -- ret#0
  refine Z.out1 (by exact ⟨rfl, trivial⟩) ?_
  exact ⟨_, rfl, by simp, hs⟩
theorem lvalid_soft (A : Option Addr) (n c : Nat) (l : List Int) (w : World) (hx : Sl w A (ints .i64 l)) (hl : l.length = n) (hn : n ≤ 1000000) (hs8 : ∀ x ∈ l, soft8 x) :
    Calls Try.prog 56 #[.slice A n c] w (SX.Ret fun r w' => r = .bool true ∧ SX.St w [] w' []) := by
  have hs := SX.St.start w
  refine Z.enter Try.func56 rfl Try.ntmps56 rfl rfl ?_
  refine Z.seq ?_
  refine Z.region ?_
  refine Z.lb 1 rfl ?_
  refine Z.lnil ?_
  refine Z.only [0] rfl ?_
  refine Z.nthen ?_
  refine Z.seq ?_
  refine Z.region ?_
  refine Z.lb 1 rfl ?_
  refine Z.le rfl trivial ?_
  refine Z.ZO.call rfl rfl (by rfl) rfl rfl Try.call68 rfl (contains_soft A n c l _ hx hl hn hs8) ?_
  rintro v1_1 w1_1 ⟨rfl, hy⟩
  replace hs := hs.call hy
  clear hy
  try simp only [List.cons_append, List.nil_append, List.append_nil] at hs
  refine Z.lb 2 rfl ?_
  refine Z.lnil ?_
  refine Z.only [2] rfl ?_
  refine Z.nthen ?_
  refine Z.ret ?_
  -- ret#0
  refine Z.out1 (by exact ⟨rfl, trivial⟩) ?_
  first | exact ⟨_, rfl, rfl, hs⟩ | exact ⟨_, rfl, rfl, hs.sub (List.nil_sublist _)⟩
set_option maxRecDepth 100000 in
theorem valid_soft (A : Option Addr) (n c : Nat) (l : List Int) (w : World) (hx : Sl w A (ints .i64 l)) (hl : l.length = n) (hn : n ≤ 1000000) (hs8 : ∀ x ∈ l, soft8 x) :
    Calls Try.prog 49 #[.slice A n c] w (SX.Ret fun r w' => r = .bool true ∧ SX.St w [] w' []) := by
  have hs := SX.St.start w
  refine Z.enter Try.func49 rfl Try.ntmps49 rfl rfl ?_
  refine Z.seq ?_
  refine Z.region ?_
  refine Z.lb 1 rfl ?_
  refine Z.lnil ?_
  refine Z.only [0] rfl ?_
  refine Z.nthen ?_
  refine Z.seq ?_
  refine Z.region ?_
  refine Z.lb 1 rfl ?_
  refine Z.l rfl rfl (by rfl) (Z.keepS hs) (Z.Yd.build rfl (by intro w; go_simp; try rfl)) ?_
  refine Z.l rfl rfl (by rfl) (Z.keepS hs) (Z.Yd.field rfl (by intro w; go_simp; try rfl)) ?_
  refine Z.le rfl trivial ?_
  refine Z.ZO.call rfl rfl (by rfl) rfl rfl Try.call56 rfl (lvalid_soft A n c l _ hx hl hn hs8) ?_
  rintro v1_3 w1_3 ⟨rfl, hy⟩
  replace hs := hs.call hy
  clear hy
  try simp only [List.cons_append, List.nil_append, List.append_nil] at hs
  refine Z.lb 1 rfl ?_
  refine Z.lnil ?_
  refine Z.only [2] rfl ?_
  refine Z.nthen ?_
  refine Z.ret ?_
  -- ret#0
  refine Z.out1 (by exact ⟨rfl, trivial⟩) ?_
  first | exact ⟨_, rfl, rfl, hs⟩ | exact ⟨_, rfl, rfl, hs.sub (List.nil_sublist _)⟩

theorem hard1_any (A : Option Addr) (n c : Nat) (l : List Int) (gl j : Nat) (w : World) (hx : Sl w A (ints .i64 l)) (hl : l.length = n) (hj : j < n) (hn : n ≤ 1000000) (hgl : gl < w.heap.size) (hcl : w.cell? ⟨gl, 0, none⟩ = some (.slice A n c)) :
    Calls Try.prog 50 #[.int .i64 (j : Int), .pointer (some ⟨gl, 0, none⟩)] w (SX.Ret fun r w' => r = .int .u8 (sgn (elt l (j : Int))) ∧ SX.St w [] w' []) := by
  have hs := SX.St.start w
  obtain ⟨b, off, rfl, hb, hx⟩ := Z.Sl.some hx (by simp [ints]; omega)
  refine Z.enter Try.func50 rfl Try.ntmps50 rfl rfl ?_
  refine Z.seq ?_
  refine Z.region ?_
  refine Z.lb 1 rfl ?_
  refine Z.lnil ?_
  refine Z.only [0, 1] rfl ?_
  refine Z.nthen ?_
  refine Z.seq ?_
  refine Z.region ?_
  refine Z.l rfl rfl (by rfl) (Z.keepS hs) (Z.Yd.load rfl Try.isAgg38 (fun _ => Z.cellO hgl (by simp) hcl)) ?_
  refine Z.lb 1 rfl ?_
  refine Z.l rfl rfl (by rfl) (Z.keepS hs) (Z.Yd.elem rfl rfl Try.underlying38 Try.sizeOf3 (fun hG => ⟨(by first | omega | (have hG' := Z.gh rfl hG; simp at hG'; omega)), (by first | omega | (have hG' := Z.gh rfl hG; simp at hG'; omega))⟩)) ?_
  refine Z.l rfl rfl (by rfl) (Z.keepS hs) (Z.Yd.load rfl Try.isAgg3 (fun _ => Z.cellS hx rfl (by first | omega | (have hG' := Z.gh rfl hG; simp at hG'; omega)) (by first | omega | (have hG' := Z.gh rfl hG; simp at hG'; omega)))) ?_
  refine Z.le rfl trivial ?_
  refine Z.ZO.call rfl rfl (by rfl) rfl rfl Try.call51 rfl (sign_any _ _) ?_
  rintro v1_4 w1_4 ⟨rfl, hy⟩
  replace hs := hs.call hy
  clear hy
  try simp only [List.cons_append, List.nil_append, List.append_nil] at hs
  refine Z.lb 1 rfl ?_
  refine Z.lnil ?_
  refine Z.only [3] rfl ?_
  refine Z.nthen ?_
  refine Z.ret ?_
  -- ret#0
  refine Z.out1 (by exact ⟨rfl, trivial⟩) ?_
  first | exact ⟨_, rfl, rfl, hs⟩ | exact ⟨_, rfl, rfl, hs.sub (List.nil_sublist _)⟩

set_option maxRecDepth 100000 in
theorem mapped8 (n : Nat) (gl : Nat) (f : Nat → Int) (w : World) (hn : n ≤ 1000000)
    (hof : ∀ j, j < n → ∀ W L, SX.St w [] W L → Calls Try.prog 50 #[.int .i64 (j : Int), .pointer (some ⟨gl, 0, none⟩)] W (SX.Ret fun r w' => r = .int .u8 (f j) ∧ SX.St W [] w' [])) :
    Calls Try.prog 47 #[.int .i64 0, .int .i64 (n : Int), .func (.func 50) #[] #[.pointer (some ⟨gl, 0, none⟩)]] w (SX.Ret fun r w' => ∃ A co, r = .tuple #[.slice A n n, .int .i64 0] ∧
      SX.St w [] w' [SX.Ent.row (.slice A n co) 5 1 n (ints .u8 ((List.range n).map f))]) := by
  have hs := SX.St.start w
  refine Z.enter Try.func47 rfl Try.ntmps47 rfl rfl ?_
  refine Z.seq ?_
  refine Z.region ?_
  refine Z.lb 2 rfl ?_
  refine Z.lnil ?_
  refine Z.only [0, 1, 2, 6, 7] rfl ?_
  refine Z.nthen ?_
  refine Z.scope ?_
  refine Z.seq ?_
  refine Z.region ?_
  refine Z.lb 1 rfl ?_
  refine Z.lnil ?_
  refine Z.only [0, 1, 2, 6, 7, 8] rfl ?_
  refine Z.nthen ?_
  refine Z.seq ?_
  refine Z.seq ?_
  refine Z.region ?_
  refine Z.lb 2 rfl ?_
  refine Z.lnil ?_
  refine Z.only [1, 2, 6, 7, 8, 11] rfl ?_
  refine Z.nthen ?_
  refine Z.cond rfl (fun h => absurd h (by simp)) (fun hc2 => ?_)
  refine Z.skip ?_
  refine Z.nthen ?_
  refine Z.seq ?_
  refine Z.seq ?_
  refine Z.region ?_
  refine Z.lb 2 rfl ?_
  refine Z.lnil ?_
  refine Z.only [2, 8, 12, 13] rfl ?_
  refine Z.nthen ?_
  refine Z.block ?_
  refine Z.loopk (ι := Nat × Value) [2, 12] rfl (fun k => [(8, [], k.2), (13, [], .int .i64 (k.1 : Int))]) (fun k wr => k.1 ≤ n ∧ SX.St w [] wr [SX.Ent.row k.2 5 1 k.1 (ints .u8 ((List.range k.1).map f))]) (fun k => n - k.1) (0, .slice none 0 0) (by refine ⟨?_, ?_, trivial⟩ <;> (first | rfl | (refine Z.lookv rfl ?_; simp; done) | (refine Z.lookv rfl ?_; simp; omega))) ⟨by omega, hs.nil _ _⟩ ?_
  clear hs
  rintro ⟨k, sv⟩ w1 ⟨hkn, hs⟩
  refine Z.only [2, 8, 12, 13] rfl ?_
  dsimp only at hs
  dsimp only at hkn
  refine Z.seq ?_
  refine Z.region ?_
  refine Z.lb 1 rfl ?_
  refine Z.lnil ?_
  refine Z.only [2, 8, 12, 13, 14] rfl ?_
  refine Z.nthen ?_
  refine Z.seq ?_
  refine Z.cond rfl (fun hc4 => ?_) (fun hc4 => ?_)
  · first
      | (exfalso; simp at hc4 <;> omega)
      | (
        (try simp at hc4)
        refine Z.skip ?_
        refine Z.nthen ?_
        refine Z.seq ?_
        refine Z.block ?_
        refine Z.seq ?_
        refine Z.region ?_
        refine Z.lb 2 rfl ?_
        refine Z.lnil ?_
        refine Z.only [2, 8, 9, 12, 13] rfl ?_
        refine Z.nthen ?_
        refine Z.region ?_
        refine Z.lb 3 rfl ?_
        refine Z.le rfl trivial ?_
        refine Z.ZO.call rfl rfl (by rfl) rfl rfl Try.call50 rfl (hof k (by omega) _ _ hs) ?_
        rintro v6_3 w6_3 ⟨rfl, hy⟩
        replace hs := hs.call hy
        clear hy
        try simp only [List.cons_append, List.nil_append, List.append_nil] at hs
        refine Z.le rfl trivial ?_
        refine Z.ZO.lit rfl rfl (by rfl) rfl (by intro W; go_simp; exact rfl) hs ?_
        clear hs; intro g20 w20 hs
        refine Z.le rfl trivial ?_
        refine Z.ZO.append (i0 := Try.t5) (size := 1) (bytes := 1) rfl rfl (by rfl) hs Try.underlying23 (by kernel_rfl) rfl rfl rfl rfl (by decide) rfl rfl (by first | exact SX.at0 | exact SX.at1 | exact SX.at2 | exact SX.at3 | exact SX.at4 | exact SX.at5 | exact Z.at6 | exact Z.at7 | exact Z.at8 | exact Z.at9 | exact Z.at10 | exact Z.at11 | exact Z.at12) (by first | exact SX.at0 | exact SX.at1 | exact SX.at2 | exact SX.at3 | exact SX.at4 | exact SX.at5 | exact Z.at6 | exact Z.at7 | exact Z.at8 | exact Z.at9 | exact Z.at10 | exact Z.at11 | exact Z.at12) (by first | rfl | simp) (by simp [Value.oneCell']) (by decide) (by unfold maxLen; omega) (by omega) ?_
        clear hs; intro g21 cap21 w21 hs
        simp only [List.set_cons_zero, List.set_cons_succ, List.eraseIdx_cons_zero, List.eraseIdx_cons_succ] at hs
        refine Z.lb 1 rfl ?_
        refine Z.lnil ?_
        refine Z.only [2, 8, 12, 13] rfl ?_
        refine Z.nblock ?_
        refine Z.nthen ?_
        refine Z.region ?_
        refine Z.l rfl rfl (by rfl) (Z.keepS hs) (Z.Yd.add rfl rfl (fun hG => Z.wi64 (by first | omega | (have hG' := Z.gh rfl hG; simp at hG'; omega)))) ?_
        refine Z.lb 1 rfl ?_
        refine Z.lnil ?_
        refine Z.only [2, 8, 12, 13] rfl ?_
        refine Z.nthen ?_
        have e : ints .u8 ((List.range k).map f) ++ [.int .u8 (f k)] = ints .u8 ((List.range (k + 1)).map f) := by simp [ints, List.range_succ]
        rw [e] at hs
        exact Z.again (k + 1, _) (by refine ⟨?_, ?_, ?_, ?_, trivial⟩ <;> (first | rfl | (refine Z.lookv rfl ?_; simp; done) | (refine Z.lookv rfl ?_; simp; omega))) ⟨by simp only; omega, hs⟩ (by simp only; omega)
        )
  · first
      | (exfalso; simp at hc4 <;> omega)
      | (
        (try simp at hc4)
        refine Z.exit ?_
        refine Z.xthen ?_
        refine Z.xthen ?_
        refine Z.xblock ?_
        refine Z.nthen ?_
        refine Z.seq ?_
        refine Z.seq ?_
        refine Z.region ?_
        obtain rfl : k = n := by omega
        obtain ⟨Ao, co, rfl, hco, -, -⟩ := SX.row_slv hs (j := 0) rfl
        refine Z.l rfl rfl (by rfl) (Z.keepS hs) (Z.Yd.pure rfl) ?_
        refine Z.lb 1 rfl ?_
        refine Z.l rfl rfl (by rfl) (Z.keepS hs) (Z.Yd.lenS rfl Try.underlying23) ?_
        refine Z.lb 1 rfl ?_
        refine Z.l rfl rfl (by rfl) (Z.keepS hs) (Z.Yd.lenS rfl Try.underlying23) ?_
        refine Z.l rfl rfl (by rfl) (Z.keepS hs) (Z.Yd.cut3 0 k k rfl rfl rfl rfl Try.underlying23 Try.sizeOf5 (fun hG => ⟨(by first | omega | (have hG' := Z.gh rfl hG; simp at hG'; omega)), (by first | omega | (have hG' := Z.gh rfl hG; simp at hG'; omega)), (by first | omega | (have hG' := Z.gh rfl hG; simp at hG'; omega)), (by first | omega | (have hG' := Z.gh rfl hG; simp at hG'; omega)), (by first | omega | (have hG' := Z.gh rfl hG; simp at hG'; omega))⟩)) ?_
        refine Z.lb 2 rfl ?_
        refine Z.lnil ?_
        refine Z.only [6, 7] rfl ?_
        refine Z.nthen ?_
        refine Z.ret ?_
        repeat (first | refine Z.rthen ?_ | refine Z.rblock ?_ | refine Z.rscope ?_)
        -- ret#0
        refine Z.out2 (by exact ⟨rfl, rfl, trivial⟩) ?_
        exact ⟨_, rfl, Ao, co, by rw [slA_zero]; rfl, hs⟩
        )

theorem blk_later {w0 w W : World} {M : List Nat} {L L' : List SX.Ent} {g T j : Nat} {cs : Array Value} {u : Value} (hs : SX.St w0 M w L) (hj : L[j]? = some (SX.Ent.blk g T cs)) (hW : SX.St w [] W L') (hu : cs[0]? = some u) : g < W.heap.size ∧ W.cell? ⟨g, 0, none⟩ = some u := by
  have hr : w.heap[g]? = some (.cells cs T (0, 0)) := hs.get hj
  have hlt := SX.lt_of_some hr
  exact ⟨Nat.lt_of_lt_of_le hlt hW.size, (hW.oldcell (p := ⟨g, 0, none⟩) hlt (by simp)).trans ((SX.cell_blk hr 0).trans hu)⟩
theorem hard_any (A : Option Addr) (n c : Nat) (l : List Int) (w : World) (hx : Sl w A (ints .i64 l)) (hl : l.length = n) (hn : n ≤ 1000000) (hs8 : ∀ x ∈ l, soft8 x) :
    Calls Try.prog 37 #[.slice A n c] w (SX.Ret fun r w' => ∃ B co, r = .tuple #[.slice B n n, .int .i64 0] ∧
      SX.St w [] w' [SX.Ent.row (.slice B n co) 5 1 n (ints .u8 (l.map sgn))]) := by
  have hs := SX.St.start w
  refine Z.enter Try.func37 rfl Try.ntmps37 rfl rfl ?_
  refine Z.seq ?_
  refine Z.region ?_
  refine Z.le rfl trivial ?_
  refine Z.ZO.box rfl rfl (by rfl) rfl rfl hs ?_
  clear hs; intro g1 w1 hs
  refine Z.lb 2 rfl ?_
  refine Z.lnil ?_
  refine Z.only [1] rfl ?_
  refine Z.nthen ?_
  refine Z.seq ?_
  refine Z.drawK (fun _ => true) mixed hs ?_
  clear hs; intro wd1 hs
  refine Z.t 0 rfl rfl rfl (by rfl) (by kernel_rfl) ⟨_, hs, by first | (simp; done) | exact fun e he => List.mem_append_right _ he⟩ (by first | exact Z.Yd.load rfl Try.isAgg38 (fun _ => Z.cellB (by first | ((repeat (first | exact List.mem_cons_self | refine List.mem_cons_of_mem _ ?_ | refine List.mem_append_right _ ?_)); done) | fail) rfl) | exact Z.Yd.load rfl Try.isAgg38 (fun _ => Z.cellO (by assumption) (by simp) (by assumption)) | fail "load 1.0") ?_
  refine Z.t 3 rfl rfl rfl (by rfl) (by kernel_rfl) ⟨_, hs, by first | (simp; done) | exact fun e he => List.mem_append_right _ he⟩ (by first | exact Z.Yd.load rfl Try.isAgg38 (fun _ => Z.cellB (by first | ((repeat (first | exact List.mem_cons_self | refine List.mem_cons_of_mem _ ?_ | refine List.mem_append_right _ ?_)); done) | fail) rfl) | exact Z.Yd.load rfl Try.isAgg38 (fun _ => Z.cellO (by assumption) (by simp) (by assumption)) | fail "load 1.3") ?_
  refine Z.t 4 rfl rfl rfl (by rfl) (by kernel_rfl) ⟨_, hs, by first | (simp; done) | exact fun e he => List.mem_append_right _ he⟩ (Z.Yd.lenS rfl Try.underlying38) ?_
  refine Z.tb [5] (by kernel_rfl) rfl ⟨_, hs, by first | (simp; done) | exact fun e he => List.mem_append_right _ he⟩ rfl ?_
  refine Z.tn 1 rfl rfl (by kernel_rfl) rfl trivial ?_
  refine Z.ZO.call rfl rfl (by rfl) rfl rfl Try.call49 rfl (valid_soft A n c l _ (hx.st (hs.sub (List.nil_sublist _))) hl hn hs8) ?_
  rintro v1_1 w1_1 ⟨rfl, hy⟩
  replace hs := hs.call hy
  clear hy
  try simp only [List.cons_append, List.nil_append, List.append_nil] at hs
  refine Z.tk (Dn := fun _ => true) (i := 1) (fun _ => ⟨_, hs, by first | (simp; done) | exact fun e he => List.mem_append_right _ he⟩) ?_
  refine Z.tn 2 rfl rfl (by kernel_rfl) rfl trivial ?_
  refine Z.ZO.call rfl rfl (by rfl) rfl rfl Try.call48 rfl (arg_true _) ?_
  rintro v1_2 w1_2 ⟨rfl, hy⟩
  replace hs := hs.call hy
  clear hy
  try simp only [List.cons_append, List.nil_append, List.append_nil] at hs
  refine Z.tk (Dn := fun _ => true) (i := 2) (fun _ => ⟨_, hs, by first | (simp; done) | exact fun e he => List.mem_append_right _ he⟩) ?_
  have hof : ∀ j, j < n → ∀ W L, SX.St w1_2 [] W L → Calls Try.prog 50 #[.int .i64 (j : Int), .pointer (some ⟨g1, 0, none⟩)] W (SX.Ret fun r w' => r = .int .u8 (sgn (elt l (j : Int))) ∧ SX.St W [] w' []) := fun j hj W L hW => by
    obtain ⟨h1, h2⟩ := blk_later hs (j := 0) rfl hW rfl
    exact hard1_any A n c l g1 j W ((hx.st (hs.sub (List.nil_sublist _))).st (hW.sub (List.nil_sublist _))) hl hj hn h1 h2
  refine Z.tn 6 rfl rfl (by kernel_rfl) rfl trivial ?_
  refine Z.ZO.call rfl rfl (by rfl) rfl rfl Try.call47 rfl (mapped8 n g1 _ _ hn hof) ?_
  rintro v1_6 w1_6 ⟨B, co, rfl, hy⟩
  replace hs := hs.call hy
  clear hy
  try simp only [List.cons_append, List.nil_append, List.append_nil] at hs
  refine Z.tk (Dn := fun _ => true) (i := 6) (fun _ => ⟨_, hs, by first | (simp; done) | exact fun e he => List.mem_append_right _ he⟩) ?_
  refine Z.tb [7, 8, 9, 10] (by kernel_rfl) rfl ⟨_, hs, by first | (simp; done) | exact fun e he => List.mem_append_right _ he⟩ rfl ?_
  refine Z.td (by rfl) (by kernel_rfl) ?_
  refine Z.only [2, 3] rfl ?_
  refine Z.nthen ?_
  refine Z.ret ?_
  -- ret#0
  refine Z.out2 (by exact ⟨rfl, rfl, trivial⟩) ?_
  have e : (List.range n).map (fun j : Nat => sgn (elt l (j : Int))) = l.map sgn := by
    apply List.ext_getElem?
    intro i
    rw [List.getElem?_map, List.getElem?_map]
    by_cases hi : i < n
    · rw [List.getElem?_range hi, List.getElem?_eq_getElem (by omega)]
      simp [elt, show i < l.length by omega]
    · rw [List.getElem?_eq_none (by simp; omega), List.getElem?_eq_none (by omega)]
      rfl
  rw [e] at hs
  exact ⟨_, rfl, B, co, rfl, hs.sub (List.cons_sublist_cons.2 (List.nil_sublist _))⟩

theorem sfv_soft (n : Nat) (y : Int) (i : Nat) : soft8 (sfv n y i) := by unfold sfv clampv soft8; omega
theorem dml_soft (n : Nat) (ps : List (Int × Int)) : ∀ x ∈ dml n ps, soft8 x := by
  intro x hx
  simp only [dml, ilv, List.mem_flatMap, List.mem_range, List.mem_cons, List.not_mem_nil, or_false] at hx
  obtain ⟨p, _, i, _, rfl | rfl⟩ := hx <;> exact sfv_soft _ _ _
theorem decide_bad (A : Option Addr) (n c : Nat) (m e : Int) (w : World) (he : e ≠ 0)
    (h : ∀ W L, SX.St w [] W L → Calls Try.prog 17 #[.int .i64 m, .slice A n c] W (SX.Ret fun v w' => v = .tuple #[.slice none 0 0, .int .i64 e] ∧ SX.St W [] w' [])) :
    Calls Try.prog 18 #[.int .i64 m, .slice A n c] w (SX.Ret fun v w' => v = .tuple #[.slice none 0 0, .int .i64 e] ∧ SX.St w [] w' []) := by
  have hs := SX.St.start w
  refine Z.enter Try.func18 rfl Try.ntmps18 rfl rfl ?_
  refine Z.seq ?_
  refine Z.region ?_
  refine Z.lb 2 rfl ?_
  refine Z.lnil ?_
  refine Z.only [0, 1] rfl ?_
  refine Z.nthen ?_
  refine Z.seq ?_
  refine Z.region ?_
  refine Z.lb 2 rfl ?_
  refine Z.le rfl trivial ?_
  refine Z.ZO.call rfl rfl (by rfl) rfl rfl Try.call17 rfl (h _ _ hs) ?_
  rintro v1_2 w1_2 ⟨rfl, hy⟩
  replace hs := hs.call hy
  clear hy
  try simp only [List.cons_append, List.nil_append, List.append_nil] at hs
  refine Z.lb 5 rfl ?_
  refine Z.lnil ?_
  refine Z.only [6, 7] rfl ?_
  refine Z.nthen ?_
  refine Z.seq ?_
  refine Z.seq ?_
  refine Z.region ?_
  refine Z.lb 2 rfl ?_
  refine Z.lnil ?_
  refine Z.only [6, 7, 15] rfl ?_
  refine Z.nthen ?_
  refine Z.cond rfl (fun hc2 => ?_) (fun h => absurd h (by simpa using he))
  refine Z.seq ?_
  refine Z.region ?_
  refine Z.lb 3 rfl ?_
  refine Z.lnil ?_
  refine Z.only [4, 5] rfl ?_
  refine Z.nthen ?_
  refine Z.ret ?_
  repeat (first | refine Z.rthen ?_ | refine Z.rblock ?_ | refine Z.rscope ?_)
  -- ret#0
  refine Z.out2 (by exact ⟨rfl, rfl, trivial⟩) ?_
  first | exact ⟨_, rfl, rfl, hs⟩ | exact ⟨_, rfl, rfl, hs.sub (List.nil_sublist _)⟩
theorem decide_ok (A : Option Addr) (np c n : Nat) (ps : List (Int × Int)) (w : World) (hr : Sl w A (pcells ps)) (hl : ps.length = np) (hnp : np ≤ 600) (hn : 1 ≤ n) (hn3 : n ≤ 3) (hi : ∀ p ∈ ps, ins p = true) :
    Calls Try.prog 18 #[.int .i64 ((2 * n : Nat) : Int), .slice A np c] w (SX.Ret fun v w' => ∃ B co, v = .tuple #[.slice B (np * (2 * n)) (np * (2 * n)), .int .i64 0] ∧
      SX.St w [] w' [SX.Ent.row (.slice B (np * (2 * n)) co) 5 1 (np * (2 * n)) (ints .u8 ((dml n ps).map sgn))]) := by
  have hs := SX.St.start w
  have hdl := dml_length n ps
  have hb : np * (2 * n) ≤ 600 * 6 := Nat.mul_le_mul hnp (by omega)
  refine Z.enter Try.func18 rfl Try.ntmps18 rfl rfl ?_
  refine Z.seq ?_
  refine Z.region ?_
  refine Z.lb 2 rfl ?_
  refine Z.lnil ?_
  refine Z.only [0, 1] rfl ?_
  refine Z.nthen ?_
  refine Z.seq ?_
  refine Z.region ?_
  refine Z.lb 2 rfl ?_
  refine Z.le rfl trivial ?_
  refine Z.ZO.call rfl rfl (by rfl) rfl rfl Try.call17 rfl (demod_ok A np c n ps _ (hr.st hs) hl hnp hn hn3 hi) ?_
  rintro v1_2 w1_2 ⟨sv, rfl, hy⟩
  replace hs := hs.call hy
  clear hy
  try simp only [List.cons_append, List.nil_append, List.append_nil] at hs
  refine Z.lb 5 rfl ?_
  refine Z.lnil ?_
  refine Z.only [6, 7] rfl ?_
  refine Z.nthen ?_
  refine Z.seq ?_
  refine Z.seq ?_
  refine Z.region ?_
  refine Z.lb 2 rfl ?_
  refine Z.lnil ?_
  refine Z.only [6, 7, 15] rfl ?_
  refine Z.nthen ?_
  refine Z.cond rfl (fun h => absurd h (by simp)) (fun hc2 => ?_)
  refine Z.skip ?_
  refine Z.nthen ?_
  refine Z.seq ?_
  refine Z.region ?_
  refine Z.lb 1 rfl ?_
  obtain ⟨Ad, cd, rfl, -, -, -⟩ := SX.row_slv hs (j := 0) rfl
  refine Z.le rfl trivial ?_
  refine Z.ZO.call rfl rfl (by rfl) rfl rfl Try.call37 rfl (hard_any Ad _ cd (dml n ps) _ (SX.row_slB hs (j := 0) rfl) (by rw [hdl, hl]) (by omega) (dml_soft n ps)) ?_
  rintro v4_1 w4_1 ⟨B, co, rfl, hy⟩
  replace hs := hs.call hy
  clear hy
  try simp only [List.cons_append, List.nil_append, List.append_nil] at hs
  refine Z.lb 4 rfl ?_
  refine Z.lnil ?_
  refine Z.only [4, 5] rfl ?_
  refine Z.nthen ?_
  refine Z.ret ?_
  -- ret#0
  refine Z.out2 (by exact ⟨rfl, rfl, trivial⟩) ?_
  exact ⟨_, rfl, B, co, rfl, hs.sub (List.cons_sublist_cons.2 (List.nil_sublist _))⟩
end Go.Proofs.Ythncbdoiilgnhaa
