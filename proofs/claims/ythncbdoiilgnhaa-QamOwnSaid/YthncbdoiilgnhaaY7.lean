/- Part 7 of the proofs that lead to the statement. -/
import Derived.Test.YthncbdoiilgnhaaY6
import Derived.SizedLaws
import Derived.RecoverIn
import Derived.ScopeJumps
/- Bytes compared; hard decisions. -/
namespace Go.Proofs.Ythncbdoiilgnhaa
open Go.RowKit
set_option linter.unusedSimpArgs false
set_option linter.unusedVariables false

theorem sameB_any (A B : Option Addr) (n m c d : Nat) (xs ys : List Int) (w : World) (hx : Sl w A (ints .u8 xs)) (hy : Sl w B (ints .u8 ys)) (hl : xs.length = n) (hk : ys.length = m) (he : xs = ys) (hn : n ≤ 1000000) :
    Calls Try.prog 21 #[.slice A n c, .slice B m d] w (SX.Ret fun r w' => r = .bool true ∧ SX.St w [] w' []) := by
  have hs := SX.St.start w
  subst he
  obtain rfl : n = m := by omega
  refine Z.enter Try.func21 rfl Try.ntmps21 rfl rfl ?_
  refine Z.seq ?_
  refine Z.region ?_
  refine Z.lb 1 rfl ?_
  refine Z.lnil ?_
  refine Z.only [0, 1] rfl ?_
  refine Z.nthen ?_
  refine Z.seq ?_
  refine Z.seq ?_
  refine Z.region ?_
  refine Z.lb 1 rfl ?_
  refine Z.l rfl rfl (by rfl) (Z.keepS hs) (Z.Yd.lenS rfl Try.underlying23) ?_
  refine Z.lb 1 rfl ?_
  refine Z.l rfl rfl (by rfl) (Z.keepS hs) (Z.Yd.lenS rfl Try.underlying23) ?_
  refine Z.lb 1 rfl ?_
  refine Z.lnil ?_
  refine Z.only [0, 1, 10] rfl ?_
  refine Z.nthen ?_
  refine Z.cond rfl (fun h => absurd h (by simp)) (fun hc1 => ?_)
  refine Z.skip ?_
  refine Z.nthen ?_
  refine Z.seq ?_
  refine Z.seq ?_
  refine Z.region ?_
  refine Z.lb 1 rfl ?_
  refine Z.lnil ?_
  refine Z.only [0, 1, 5] rfl ?_
  refine Z.nthen ?_
  refine Z.block ?_
  refine Z.loopk (ι := Nat) [0, 1] rfl (fun k => [(5, [], .int .i64 (k : Int))]) (fun k wr => k ≤ n ∧ SX.St w [] wr []) (fun k => n - k) 0 (by refine ⟨?_, trivial⟩ <;> (first | rfl | (refine Z.lookv rfl ?_; simp; done) | (refine Z.lookv rfl ?_; simp; omega))) ⟨by omega, hs⟩ ?_
  clear hs
  rintro k w1 ⟨hkn, hs⟩
  refine Z.only [0, 1, 5] rfl ?_
  refine Z.seq ?_
  refine Z.seq ?_
  refine Z.region ?_
  refine Z.lb 2 rfl ?_
  refine Z.l rfl rfl (by rfl) (Z.keepS hs) (Z.Yd.lenS rfl Try.underlying23) ?_
  refine Z.lb 1 rfl ?_
  refine Z.lnil ?_
  refine Z.only [0, 1, 5, 14] rfl ?_
  refine Z.nthen ?_
  refine Z.cond rfl (fun hc4 => ?_) (fun hc4 => ?_)
  · first
      | (exfalso; simp at hc4 <;> omega)
      | (
        (try simp at hc4)
        obtain ⟨b, off, rfl, hb, hx⟩ := Z.Sl.some hx (by simp [ints]; omega)
        obtain ⟨b2, off2, rfl, hb2, hy⟩ := Z.Sl.some hy (by simp [ints]; omega)
        refine Z.skip ?_
        refine Z.nthen ?_
        refine Z.seq ?_
        refine Z.block ?_
        refine Z.seq ?_
        refine Z.drawK (fun _ => true) mixed hs ?_
        clear hs; intro wd6 hs
        refine Z.tb [0, 1] (by kernel_rfl) rfl ⟨_, hs, by first | (simp; done) | exact fun e he => List.mem_append_right _ he⟩ rfl ?_
        refine Z.t 2 rfl rfl rfl (by rfl) (by kernel_rfl) ⟨_, hs, by first | (simp; done) | exact fun e he => List.mem_append_right _ he⟩ (Z.Yd.elem rfl rfl Try.underlying23 Try.sizeOf5 (fun hG => ⟨(by first | omega | (have hG' := Z.gh rfl hG; simp at hG'; omega)), (by first | omega | (have hG' := Z.gh rfl hG; simp at hG'; omega))⟩)) ?_
        refine Z.t 3 rfl rfl rfl (by rfl) (by kernel_rfl) ⟨_, hs, by first | (simp; done) | exact fun e he => List.mem_append_right _ he⟩ (Z.Yd.load rfl Try.isAgg5 (fun _ => Z.cellS hx rfl (by first | omega | (have hG' := Z.gh rfl hG; simp at hG'; omega)) (by first | omega | (have hG' := Z.gh rfl hG; simp at hG'; omega)))) ?_
        refine Z.tb [4, 5] (by kernel_rfl) rfl ⟨_, hs, by first | (simp; done) | exact fun e he => List.mem_append_right _ he⟩ rfl ?_
        refine Z.t 6 rfl rfl rfl (by rfl) (by kernel_rfl) ⟨_, hs, by first | (simp; done) | exact fun e he => List.mem_append_right _ he⟩ (Z.Yd.elem rfl rfl Try.underlying23 Try.sizeOf5 (fun hG => ⟨(by first | omega | (have hG' := Z.gh rfl hG; simp at hG'; omega)), (by first | omega | (have hG' := Z.gh rfl hG; simp at hG'; omega))⟩)) ?_
        refine Z.t 7 rfl rfl rfl (by rfl) (by kernel_rfl) ⟨_, hs, by first | (simp; done) | exact fun e he => List.mem_append_right _ he⟩ (Z.Yd.load rfl Try.isAgg5 (fun _ => Z.cellS hy rfl (by first | omega | (have hG' := Z.gh rfl hG; simp at hG'; omega)) (by first | omega | (have hG' := Z.gh rfl hG; simp at hG'; omega)))) ?_
        refine Z.tb [8] (by kernel_rfl) rfl ⟨_, hs, by first | (simp; done) | exact fun e he => List.mem_append_right _ he⟩ rfl ?_
        refine Z.td (by rfl) (by kernel_rfl) ?_
        refine Z.only [0, 1, 5, 25] rfl ?_
        refine Z.nthen ?_
        refine Z.cond rfl (fun h => absurd h (by simp)) (fun hc6 => ?_)
        refine Z.skip ?_
        refine Z.nblock ?_
        refine Z.nthen ?_
        refine Z.region ?_
        refine Z.lb 1 rfl ?_
        refine Z.l rfl rfl (by rfl) (Z.keepS hs) (Z.Yd.add rfl rfl (fun hG => Z.wi64 (by first | omega | (have hG' := Z.gh rfl hG; simp at hG'; omega)))) ?_
        refine Z.lb 1 rfl ?_
        refine Z.lnil ?_
        refine Z.only [0, 1, 5] rfl ?_
        refine Z.nthen ?_
        exact Z.again (k + 1) (by refine ⟨?_, ?_, ?_, trivial⟩ <;> (first | rfl | (refine Z.lookv rfl ?_; simp; done) | (refine Z.lookv rfl ?_; simp; omega))) ⟨by omega, hs⟩ (by omega)
        )
  · first
      | (exfalso; simp at hc4 <;> omega)
      | (
        (try simp at hc4)
        refine Z.exit ?_
        refine Z.xthen ?_
        refine Z.xthen ?_
        refine Z.xblock ?_
        refine Z.nthen ?_
        refine Z.seq ?_
        refine Z.region ?_
        refine Z.lb 1 rfl ?_
        refine Z.lnil ?_
        refine Z.only [4] rfl ?_
        refine Z.nthen ?_
        refine Z.ret ?_
        -- ret#0
        refine Z.out1 (by exact ⟨rfl, trivial⟩) ?_
        first | exact ⟨_, rfl, rfl, hs⟩ | exact ⟨_, rfl, rfl, hs.sub (List.nil_sublist _)⟩
        )
theorem arg_true (w : World) : Calls Try.prog 48 #[.bool true] w (SX.Ret fun r w' => r = .int .i64 0 ∧ SX.St w [] w' []) := by
  have hs := SX.St.start w
  refine Z.enter Try.func48 rfl Try.ntmps48 rfl rfl ?_
  refine Z.seq ?_
  refine Z.region ?_
  refine Z.lb 1 rfl ?_
  refine Z.lnil ?_
  refine Z.only [0] rfl ?_
  refine Z.nthen ?_
  refine Z.seq ?_
  refine Z.seq ?_
  refine Z.region ?_
  refine Z.lb 1 rfl ?_
  refine Z.lnil ?_
  refine Z.only [3] rfl ?_
  refine Z.nthen ?_
  refine Z.cond rfl (fun hc1 => ?_) (fun hc1 => ?_)
  · first
      | (exfalso; simp at hc1 <;> omega)
      | (
        (try simp at hc1)
        refine Z.seq ?_
        refine Z.region ?_
        refine Z.lb 1 rfl ?_
        refine Z.lnil ?_
        refine Z.only [2] rfl ?_
        refine Z.nthen ?_
        refine Z.ret ?_
        repeat (first | refine Z.rthen ?_ | refine Z.rblock ?_ | refine Z.rscope ?_)
        -- ret#0
        refine Z.out1 (by exact ⟨rfl, trivial⟩) ?_
        first | exact ⟨_, rfl, rfl, hs⟩ | exact ⟨_, rfl, rfl, hs.sub (List.nil_sublist _)⟩
        )
  · first
      | (exfalso; simp at hc1 <;> omega)
      | (
        (try simp at hc1)
        refine Z.skip ?_
        refine Z.nthen ?_
        refine Z.seq ?_
        refine Z.region ?_
        refine Z.lb 1 rfl ?_
        refine Z.lnil ?_
        refine Z.only [2] rfl ?_
        refine Z.nthen ?_
        refine Z.ret ?_
        -- ret#1
        refine Z.out1 (by exact ⟨rfl, trivial⟩) ?_
        first | exact ⟨_, rfl, rfl, hs⟩ | exact ⟨_, rfl, rfl, hs.sub (List.nil_sublist _)⟩
        )

def sgn (x : Int) : Int := if x < 0 then 1 else 0
theorem sign_any (x : Int) (w : World) : Calls Try.prog 51 #[.int .i64 x] w (SX.Ret fun r w' => r = .int .u8 (sgn x) ∧ SX.St w [] w' []) := by
  have hs := SX.St.start w
  refine Z.enter Try.func51 rfl Try.ntmps51 rfl rfl ?_
  refine Z.seq ?_
  refine Z.region ?_
  refine Z.lb 1 rfl ?_
  refine Z.lnil ?_
  refine Z.only [0] rfl ?_
  refine Z.nthen ?_
  refine Z.seq ?_
  refine Z.seq ?_
  refine Z.region ?_
  refine Z.lb 2 rfl ?_
  refine Z.lnil ?_
  refine Z.only [4] rfl ?_
  refine Z.nthen ?_
  refine Z.cond rfl (fun hc1 => ?_) (fun hc1 => ?_)
  · first
      | (exfalso; simp at hc1 <;> omega)
      | (
        (try simp at hc1)
        refine Z.seq ?_
        refine Z.region ?_
        refine Z.lb 1 rfl ?_
        refine Z.lnil ?_
        refine Z.only [2] rfl ?_
        refine Z.nthen ?_
        refine Z.ret ?_
        repeat (first | refine Z.rthen ?_ | refine Z.rblock ?_ | refine Z.rscope ?_)
        -- ret#0
        refine Z.out1 (by exact ⟨rfl, trivial⟩) ?_
        exact ⟨_, rfl, by unfold sgn; rw [if_pos hc1], hs⟩
        )
  · first
      | (exfalso; simp at hc1 <;> omega)
      | (
        (try simp at hc1)
        refine Z.skip ?_
        refine Z.nthen ?_
        refine Z.seq ?_
        refine Z.region ?_
        refine Z.lb 1 rfl ?_
        refine Z.lnil ?_
        refine Z.only [2] rfl ?_
        refine Z.nthen ?_
        refine Z.ret ?_
        -- ret#1
        refine Z.out1 (by exact ⟨rfl, trivial⟩) ?_
        exact ⟨_, rfl, by unfold sgn; rw [if_neg (by omega)], hs⟩
        )
def soft8 (x : Int) : Prop := -127 ≤ x ∧ x ≤ 127
theorem clampv_id {x : Int} (h : soft8 x) : clampv x = x := by unfold clampv soft8 at *; omega
theorem valid1_any (x : Int) (w : World) (h : soft8 x) : Calls Try.prog 69 #[.int .i64 x] w (SX.Ret fun r w' => r = .bool false ∧ SX.St w [] w' []) := by
  have hs := SX.St.start w
  have hc := clampv_id h
  refine Z.enter Try.func69 rfl Try.ntmps69 rfl rfl ?_
  refine Z.seq ?_
  refine Z.region ?_
  refine Z.lb 1 rfl ?_
  refine Z.lnil ?_
  refine Z.only [0] rfl ?_
  refine Z.nthen ?_
  refine Z.seq ?_
  refine Z.region ?_
  refine Z.lb 1 rfl ?_
  refine Z.le rfl trivial ?_
  refine Z.ZO.call rfl rfl (by rfl) rfl rfl Try.call46 rfl (clamp_any x _) ?_
  rintro v1_1 w1_1 ⟨rfl, hy⟩
  replace hs := hs.call hy
  clear hy
  try simp only [List.cons_append, List.nil_append, List.append_nil] at hs
  refine Z.lb 3 rfl ?_
  refine Z.lnil ?_
  refine Z.only [2] rfl ?_
  refine Z.nthen ?_
  refine Z.ret ?_
  -- ret#0
  refine Z.out1 (by exact ⟨rfl, trivial⟩) ?_
  exact ⟨_, rfl, by simp [hc], hs⟩
theorem index_soft (A : Option Addr) (n c : Nat) (l : List Int) (w : World) (hx : Sl w A (ints .i64 l)) (hl : l.length = n) (hn : n ≤ 1000000) (hs8 : ∀ x ∈ l, soft8 x) :
    Calls Try.prog 76 #[.slice A n c, .func (.func 69) #[] #[]] w (SX.Ret fun r w' => r = .int .i64 (-1) ∧ SX.St w [] w' []) := by
  have hs := SX.St.start w
  refine Z.enter Try.func76 rfl Try.ntmps76 rfl rfl ?_
  refine Z.seq ?_
  refine Z.region ?_
  refine Z.lb 1 rfl ?_
  refine Z.lnil ?_
  refine Z.only [0, 1] rfl ?_
  refine Z.nthen ?_
  refine Z.seq ?_
  refine Z.seq ?_
  refine Z.region ?_
  refine Z.lb 1 rfl ?_
  refine Z.l rfl rfl (by rfl) (Z.keepS hs) (Z.Yd.lenS rfl Try.underlying83) ?_
  refine Z.lb 1 rfl ?_
  refine Z.lnil ?_
  refine Z.only [0, 1, 7, 8] rfl ?_
  refine Z.nthen ?_
  refine Z.block ?_
  refine Z.loopk (ι := Nat) [0, 1, 7] rfl (fun k => [(8, [], .int .i64 (k : Int))]) (fun k wr => k ≤ n ∧ SX.St w [] wr []) (fun k => n - k) 0 (by refine ⟨?_, trivial⟩ <;> (first | rfl | (refine Z.lookv rfl ?_; simp; done) | (refine Z.lookv rfl ?_; simp; omega))) ⟨by omega, hs⟩ ?_
  clear hs
  rintro k w1 ⟨hkn, hs⟩
  refine Z.only [0, 1, 7, 8] rfl ?_
  refine Z.seq ?_
  refine Z.region ?_
  refine Z.lb 1 rfl ?_
  refine Z.lnil ?_
  refine Z.only [0, 1, 7, 8, 9] rfl ?_
  refine Z.nthen ?_
  refine Z.seq ?_
  refine Z.cond rfl (fun hc2 => ?_) (fun hc2 => ?_)
  · first
      | (exfalso; simp at hc2 <;> omega)
      | (
        (try simp at hc2)
        obtain ⟨b, off, rfl, hb, hx⟩ := Z.Sl.some hx (by simp [ints]; omega)
        have he := hs8 _ (Z.elt_mem (l := l) (z := (k : Int)) (by omega) (by omega))
        refine Z.skip ?_
        refine Z.nthen ?_
        refine Z.seq ?_
        refine Z.block ?_
        refine Z.seq ?_
        refine Z.region ?_
        refine Z.lb 2 rfl ?_
        refine Z.lnil ?_
        refine Z.only [0, 1, 5, 7, 8] rfl ?_
        refine Z.nthen ?_
        refine Z.seq ?_
        refine Z.region ?_
        refine Z.lb 3 rfl ?_
        refine Z.l rfl rfl (by rfl) (Z.keepS hs) (Z.Yd.elem rfl rfl Try.underlying83 Try.sizeOf3 (fun hG => ⟨(by first | omega | (have hG' := Z.gh rfl hG; simp at hG'; omega)), (by first | omega | (have hG' := Z.gh rfl hG; simp at hG'; omega))⟩)) ?_
        refine Z.l rfl rfl (by rfl) (Z.keepS hs) (Z.Yd.load rfl Try.isAgg3 (fun _ => Z.cellS hx rfl (by first | omega | (have hG' := Z.gh rfl hG; simp at hG'; omega)) (by first | omega | (have hG' := Z.gh rfl hG; simp at hG'; omega)))) ?_
        refine Z.le rfl trivial ?_
        refine Z.ZO.call rfl rfl (by rfl) rfl rfl Try.call69 rfl (valid1_any _ _ he) ?_
        rintro v4_5 w4_5 ⟨rfl, hy⟩
        replace hs := hs.call hy
        clear hy
        try simp only [List.cons_append, List.nil_append, List.append_nil] at hs
        refine Z.lnil ?_
        refine Z.only [0, 1, 5, 7, 8, 16] rfl ?_
        refine Z.nthen ?_
        refine Z.cond rfl (fun h => absurd h (by simp)) (fun hc4 => ?_)
        refine Z.skip ?_
        refine Z.nblock ?_
        refine Z.nthen ?_
        refine Z.region ?_
        refine Z.l rfl rfl (by rfl) (Z.keepS hs) (Z.Yd.add rfl rfl (fun hG => Z.wi64 (by first | omega | (have hG' := Z.gh rfl hG; simp at hG'; omega)))) ?_
        refine Z.lb 1 rfl ?_
        refine Z.lnil ?_
        refine Z.only [0, 1, 7, 8] rfl ?_
        refine Z.nthen ?_
        exact Z.again (k + 1) (by refine ⟨?_, ?_, ?_, ?_, trivial⟩ <;> (first | rfl | (refine Z.lookv rfl ?_; simp; done) | (refine Z.lookv rfl ?_; simp; omega))) ⟨by omega, hs⟩ (by omega)
        )
  · first
      | (exfalso; simp at hc2 <;> omega)
      | (
        (try simp at hc2)
        refine Z.exit ?_
        refine Z.xthen ?_
        refine Z.xthen ?_
        refine Z.xblock ?_
        refine Z.nthen ?_
        refine Z.seq ?_
        refine Z.region ?_
        refine Z.lb 1 rfl ?_
        refine Z.lnil ?_
        refine Z.only [4] rfl ?_
        refine Z.nthen ?_
        refine Z.ret ?_
        -- ret#0
        refine Z.out1 (by exact ⟨rfl, trivial⟩) ?_
        first | exact ⟨_, rfl, rfl, hs⟩ | exact ⟨_, rfl, rfl, hs.sub (List.nil_sublist _)⟩
        )
theorem contains_soft (A : Option Addr) (n c : Nat) (l : List Int) (w : World) (hx : Sl w A (ints .i64 l)) (hl : l.length = n) (hn : n ≤ 1000000) (hs8 : ∀ x ∈ l, soft8 x) :
    Calls Try.prog 68 #[.slice A n c, .func (.func 69) #[] #[]] w (SX.Ret fun r w' => r = .bool false ∧ SX.St w [] w' []) := by
  have hs := SX.St.start w
  refine Z.enter Try.func68 rfl Try.ntmps68 rfl rfl ?_
  refine Z.seq ?_
  refine Z.region ?_
  refine Z.lb 1 rfl ?_
  refine Z.lnil ?_
  refine Z.only [0, 1] rfl ?_
  refine Z.nthen ?_
  refine Z.seq ?_
  refine Z.region ?_
  refine Z.lb 2 rfl ?_
  refine Z.le rfl trivial ?_
  refine Z.ZO.call rfl rfl (by rfl) rfl rfl Try.call76 rfl (index_soft A n c l _ hx hl hn hs8) ?_
  rintro v1_2 w1_2 ⟨rfl, hy⟩
  replace hs := hs.call hy
  clear hy
  try simp only [List.cons_append, List.nil_append, List.append_nil] at hs
  refine Z.lb 2 rfl ?_
  refine Z.lnil ?_
  refine Z.only [4] rfl ?_
  refine Z.nthen ?_
  refine Z.ret ?_
  -- ret#0
  refine Z.out1 (by exact ⟨rfl, trivial⟩) ?_
  exact ⟨_, rfl, by simp, hs⟩
theorem lvalid_soft (A : Option Addr) (n c : Nat) (l : List Int) (w : World) (hx : Sl w A (ints .i64 l)) (hl : l.length = n) (hn : n ≤ 1000000) (hs8 : ∀ x ∈ l, soft8 x) :
    Calls Try.prog 56 #[.slice A n c] w (SX.Ret fun r w' => r = .bool true ∧ SX.St w [] w' []) := by
  have hs := SX.St.start w
  refine Z.enter Try.func56 rfl Try.ntmps56 rfl rfl ?_
  refine Z.seq ?_
  refine Z.region ?_
  refine Z.lb 1 rfl ?_
  refine Z.lnil ?_
  refine Z.only [0] rfl ?_
  refine Z.nthen ?_
  refine Z.seq ?_
  refine Z.region ?_
  refine Z.lb 1 rfl ?_
  refine Z.le rfl trivial ?_
  refine Z.ZO.call rfl rfl (by rfl) rfl rfl Try.call68 rfl (contains_soft A n c l _ hx hl hn hs8) ?_
  rintro v1_1 w1_1 ⟨rfl, hy⟩
  replace hs := hs.call hy
  clear hy
  try simp only [List.cons_append, List.nil_append, List.append_nil] at hs
  refine Z.lb 2 rfl ?_
  refine Z.lnil ?_
  refine Z.only [2] rfl ?_
  refine Z.nthen ?_
  refine Z.ret ?_
  -- ret#0
  refine Z.out1 (by exact ⟨rfl, trivial⟩) ?_
  first | exact ⟨_, rfl, rfl, hs⟩ | exact ⟨_, rfl, rfl, hs.sub (List.nil_sublist _)⟩
set_option maxRecDepth 100000 in
theorem valid_soft (A : Option Addr) (n c : Nat) (l : List Int) (w : World) (hx : Sl w A (ints .i64 l)) (hl : l.length = n) (hn : n ≤ 1000000) (hs8 : ∀ x ∈ l, soft8 x) :
    Calls Try.prog 49 #[.slice A n c] w (SX.Ret fun r w' => r = .bool true ∧ SX.St w [] w' []) := by
  have hs := SX.St.start w
  refine Z.enter Try.func49 rfl Try.ntmps49 rfl rfl ?_
  refine Z.seq ?_
  refine Z.region ?_
  refine Z.lb 1 rfl ?_
  refine Z.lnil ?_
  refine Z.only [0] rfl ?_
  refine Z.nthen ?_
  refine Z.seq ?_
  refine Z.region ?_
  refine Z.lb 1 rfl ?_
  refine Z.l rfl rfl (by rfl) (Z.keepS hs) (Z.Yd.build rfl (by intro w; go_simp; try rfl)) ?_
  refine Z.l rfl rfl (by rfl) (Z.keepS hs) (Z.Yd.field rfl (by intro w; go_simp; try rfl)) ?_
  refine Z.le rfl trivial ?_
  refine Z.ZO.call rfl rfl (by rfl) rfl rfl Try.call56 rfl (lvalid_soft A n c l _ hx hl hn hs8) ?_
  rintro v1_3 w1_3 ⟨rfl, hy⟩
  replace hs := hs.call hy
  clear hy
  try simp only [List.cons_append, List.nil_append, List.append_nil] at hs
  refine Z.lb 1 rfl ?_
  refine Z.lnil ?_
  refine Z.only [2] rfl ?_
  refine Z.nthen ?_
  refine Z.ret ?_
  -- ret#0
  refine Z.out1 (by exact ⟨rfl, trivial⟩) ?_
  first | exact ⟨_, rfl, rfl, hs⟩ | exact ⟨_, rfl, rfl, hs.sub (List.nil_sublist _)⟩

theorem hard1_any (A : Option Addr) (n c : Nat) (l : List Int) (gl j : Nat) (w : World) (hx : Sl w A (ints .i64 l)) (hl : l.length = n) (hj : j < n) (hn : n ≤ 1000000) (hgl : gl < w.heap.size) (hcl : w.cell? ⟨gl, 0, none⟩ = some (.slice A n c)) :
    Calls Try.prog 50 #[.int .i64 (j : Int), .pointer (some ⟨gl, 0, none⟩)] w (SX.Ret fun r w' => r = .int .u8 (sgn (elt l (j : Int))) ∧ SX.St w [] w' []) := by
  have hs := SX.St.start w
  obtain ⟨b, off, rfl, hb, hx⟩ := Z.Sl.some hx (by simp [ints]; omega)
  refine Z.enter Try.func50 rfl Try.ntmps50 rfl rfl ?_
  refine Z.seq ?_
  refine Z.region ?_
  refine Z.lb 1 rfl ?_
  refine Z.lnil ?_
  refine Z.only [0, 1] rfl ?_
  refine Z.nthen ?_
  refine Z.seq ?_
  refine Z.region ?_
  refine Z.l rfl rfl (by rfl) (Z.keepS hs) (Z.Yd.load rfl Try.isAgg38 (fun _ => Z.cellO hgl (by simp) hcl)) ?_
  refine Z.lb 1 rfl ?_
  refine Z.l rfl rfl (by rfl) (Z.keepS hs) (Z.Yd.elem rfl rfl Try.underlying38 Try.sizeOf3 (fun hG => ⟨(by first | omega | (have hG' := Z.gh rfl hG; simp at hG'; omega)), (by first | omega | (have hG' := Z.gh rfl hG; simp at hG'; omega))⟩)) ?_
  refine Z.l rfl rfl (by rfl) (Z.keepS hs) (Z.Yd.load rfl Try.isAgg3 (fun _ => Z.cellS hx rfl (by first | omega | (have hG' := Z.gh rfl hG; simp at hG'; omega)) (by first | omega | (have hG' := Z.gh rfl hG; simp at hG'; omega)))) ?_
  refine Z.le rfl trivial ?_
  refine Z.ZO.call rfl rfl (by rfl) rfl rfl Try.call51 rfl (sign_any _ _) ?_
  rintro v1_4 w1_4 ⟨rfl, hy⟩
  replace hs := hs.call hy
  clear hy
  try simp only [List.cons_append, List.nil_append, List.append_nil] at hs
  refine Z.lb 1 rfl ?_
  refine Z.lnil ?_
  refine Z.only [3] rfl ?_
  refine Z.nthen ?_
  refine Z.ret ?_
  -- ret#0
  refine Z.out1 (by exact ⟨rfl, trivial⟩) ?_
  first | exact ⟨_, rfl, rfl, hs⟩ | exact ⟨_, rfl, rfl, hs.sub (List.nil_sublist _)⟩

set_option maxRecDepth 100000 in
theorem mapped8 (n : Nat) (gl : Nat) (f : Nat → Int) (w : World) (hn : n ≤ 1000000)
    (hof : ∀ j, j < n → ∀ W L, SX.St w [] W L → Calls Try.prog 50 #[.int .i64 (j : Int), .pointer (some ⟨gl, 0, none⟩)] W (SX.Ret fun r w' => r = .int .u8 (f j) ∧ SX.St W [] w' [])) :
    Calls Try.prog 47 #[.int .i64 0, .int .i64 (n : Int), .func (.func 50) #[] #[.pointer (some ⟨gl, 0, none⟩)]] w (SX.Ret fun r w' => ∃ A co, r = .tuple #[.slice A n n, .int .i64 0] ∧
      SX.St w [] w' [SX.Ent.row (.slice A n co) 5 1 n (ints .u8 ((List.range n).map f))]) := by
  have hs := SX.St.start w
  refine Z.enter Try.func47 rfl Try.ntmps47 rfl rfl ?_
  refine Z.seq ?_
  refine Z.region ?_
  refine Z.lb 2 rfl ?_
  refine Z.lnil ?_
  refine Z.only [0, 1, 2] rfl ?_
  refine Z.nthen ?_
  refine Z.scope ?_
  refine Z.seq ?_
  refine Z.region ?_
  refine Z.lb 1 rfl ?_
  refine Z.lnil ?_
  refine Z.only [0, 1, 2, 8] rfl ?_
  refine Z.nthen ?_
  refine Z.seq ?_
  refine Z.seq ?_
  refine Z.region ?_
  refine Z.lb 2 rfl ?_
  refine Z.lnil ?_
  refine Z.only [0, 1, 2, 8, 11] rfl ?_
  refine Z.nthen ?_
  refine Z.cond rfl (fun h => absurd h (by simp)) (fun hc2 => ?_)
  refine Z.skip ?_
  refine Z.nthen ?_
  refine Z.seq ?_
  refine Z.seq ?_
  refine Z.region ?_
  refine Z.lb 2 rfl ?_
  refine Z.lnil ?_
  refine Z.only [2, 8, 12, 13] rfl ?_
  refine Z.nthen ?_
  refine Z.block ?_
  refine Z.loopk (ι := Nat × Value) [2, 12] rfl (fun k => [(8, [], k.2), (13, [], .int .i64 (k.1 : Int))]) (fun k wr => k.1 ≤ n ∧ SX.St w [] wr [SX.Ent.row k.2 5 1 k.1 (ints .u8 ((List.range k.1).map f))]) (fun k => n - k.1) (0, .slice none 0 0) (by refine ⟨?_, ?_, trivial⟩ <;> (first | rfl | (refine Z.lookv rfl ?_; simp; done) | (refine Z.lookv rfl ?_; simp; omega))) ⟨by omega, hs.nil _ _⟩ ?_
  clear hs
  rintro ⟨k, sv⟩ w1 ⟨hkn, hs⟩
  refine Z.only [2, 8, 12, 13] rfl ?_
  (try dsimp only at hs)
  dsimp only at hkn
  refine Z.seq ?_
  refine Z.region ?_
  refine Z.lb 1 rfl ?_
  refine Z.lnil ?_
  refine Z.only [2, 8, 12, 13, 14] rfl ?_
  refine Z.nthen ?_
  refine Z.seq ?_
  refine Z.cond rfl (fun hc4 => ?_) (fun hc4 => ?_)
  · first
      | (exfalso; simp at hc4 <;> omega)
      | (
        (try simp at hc4)
        refine Z.skip ?_
        refine Z.nthen ?_
        refine Z.seq ?_
        refine Z.block ?_
        refine Z.seq ?_
        refine Z.region ?_
        refine Z.lb 2 rfl ?_
        refine Z.lnil ?_
        refine Z.only [2, 8, 9, 12, 13] rfl ?_
        refine Z.nthen ?_
        refine Z.region ?_
        refine Z.lb 3 rfl ?_
        refine Z.le rfl trivial ?_
        refine Z.ZO.call rfl rfl (by rfl) rfl rfl Try.call50 rfl (hof k (by omega) _ _ hs) ?_
        rintro v6_3 w6_3 ⟨rfl, hy⟩
        replace hs := hs.call hy
        clear hy
        try simp only [List.cons_append, List.nil_append, List.append_nil] at hs
        refine Z.le rfl trivial ?_
        refine Z.ZO.lit rfl rfl (by rfl) rfl (by intro W; go_simp; exact rfl) hs ?_
        clear hs; intro g20 w20 hs
        refine Z.le rfl trivial ?_
        refine Z.ZO.append (i0 := Try.t5) (size := 1) (bytes := 1) rfl rfl (by rfl) hs Try.underlying23 (by kernel_rfl) rfl rfl rfl rfl (by decide) rfl rfl (by first | exact SX.at0 | exact SX.at1 | exact SX.at2 | exact SX.at3 | exact SX.at4 | exact SX.at5 | exact Z.at6 | exact Z.at7 | exact Z.at8 | exact Z.at9 | exact Z.at10 | exact Z.at11 | exact Z.at12) (by first | exact SX.at0 | exact SX.at1 | exact SX.at2 | exact SX.at3 | exact SX.at4 | exact SX.at5 | exact Z.at6 | exact Z.at7 | exact Z.at8 | exact Z.at9 | exact Z.at10 | exact Z.at11 | exact Z.at12) (by first | rfl | simp) (by simp [Value.oneCell']) (by decide) (by unfold maxLen; omega) (by omega) ?_
        clear hs; intro g21 cap21 w21 hs
        simp only [List.set_cons_zero, List.set_cons_succ, List.eraseIdx_cons_zero, List.eraseIdx_cons_succ] at hs
        refine Z.lb 1 rfl ?_
        refine Z.lnil ?_
        refine Z.only [2, 8, 12, 13] rfl ?_
        refine Z.nblock ?_
        refine Z.nthen ?_
        refine Z.region ?_
        refine Z.l rfl rfl (by rfl) (Z.keepS hs) (Z.Yd.add rfl rfl (fun hG => Z.wi64 (by first | omega | (have hG' := Z.gh rfl hG; simp at hG'; omega)))) ?_
        refine Z.lb 1 rfl ?_
        refine Z.lnil ?_
        refine Z.only [2, 8, 12, 13] rfl ?_
        refine Z.nthen ?_
        have e : ints .u8 ((List.range k).map f) ++ [.int .u8 (f k)] = ints .u8 ((List.range (k + 1)).map f) := by simp [ints, List.range_succ]
        rw [e] at hs
        exact Z.again (k + 1, _) (by refine ⟨?_, ?_, ?_, ?_, trivial⟩ <;> (first | rfl | (refine Z.lookv rfl ?_; simp; done) | (refine Z.lookv rfl ?_; simp; omega))) ⟨by simp only; omega, hs⟩ (by simp only; omega)
        )
  · first
      | (exfalso; simp at hc4 <;> omega)
      | (
        (try simp at hc4)
        refine Z.exit ?_
        refine Z.xthen ?_
        refine Z.xthen ?_
        refine Z.xblock ?_
        refine Z.nthen ?_
        refine Z.seq ?_
        refine Z.seq ?_
        refine Z.region ?_
        obtain rfl : k = n := by omega
        obtain ⟨Ao, co, rfl, hco, -, -⟩ := SX.row_slv hs (j := 0) rfl
        refine Z.l rfl rfl (by rfl) (Z.keepS hs) (Z.Yd.pure rfl) ?_
        refine Z.lb 1 rfl ?_
        refine Z.l rfl rfl (by rfl) (Z.keepS hs) (Z.Yd.lenS rfl Try.underlying23) ?_
        refine Z.lb 1 rfl ?_
        refine Z.l rfl rfl (by rfl) (Z.keepS hs) (Z.Yd.lenS rfl Try.underlying23) ?_
        refine Z.l rfl rfl (by rfl) (Z.keepS hs) (Z.Yd.cut3 0 k k rfl rfl rfl rfl Try.underlying23 Try.sizeOf5 (fun hG => ⟨(by first | omega | (have hG' := Z.gh rfl hG; simp at hG'; omega)), (by first | omega | (have hG' := Z.gh rfl hG; simp at hG'; omega)), (by first | omega | (have hG' := Z.gh rfl hG; simp at hG'; omega)), (by first | omega | (have hG' := Z.gh rfl hG; simp at hG'; omega)), (by first | omega | (have hG' := Z.gh rfl hG; simp at hG'; omega))⟩)) ?_
        refine Z.lb 2 rfl ?_
        refine Z.lnil ?_
        refine Z.only [6, 7] rfl ?_
        refine Z.nthen ?_
        refine Z.ret ?_
        repeat (first | refine Z.rthen ?_ | refine Z.rblock ?_ | refine Z.rscope ?_)
        -- ret#0
        refine Z.out2 (by exact ⟨rfl, rfl, trivial⟩) ?_
        exact ⟨_, rfl, Ao, co, by rw [slA_zero]; rfl, hs⟩
        )

theorem blk_later {w0 w W : World} {M : List Nat} {L L' : List SX.Ent} {g T j : Nat} {cs : Array Value} {u : Value} (hs : SX.St w0 M w L) (hj : L[j]? = some (SX.Ent.blk g T cs)) (hW : SX.St w [] W L') (hu : cs[0]? = some u) : g < W.heap.size ∧ W.cell? ⟨g, 0, none⟩ = some u := by
  have hr : w.heap[g]? = some (.cells cs T (0, 0)) := hs.get hj
  have hlt := SX.lt_of_some hr
  exact ⟨Nat.lt_of_lt_of_le hlt hW.size, (hW.oldcell (p := ⟨g, 0, none⟩) hlt (by simp)).trans ((SX.cell_blk hr 0).trans hu)⟩
theorem hard_any (A : Option Addr) (n c : Nat) (l : List Int) (w : World) (hx : Sl w A (ints .i64 l)) (hl : l.length = n) (hn : n ≤ 1000000) (hs8 : ∀ x ∈ l, soft8 x) :
    Calls Try.prog 37 #[.slice A n c] w (SX.Ret fun r w' => ∃ B co, r = .tuple #[.slice B n n, .int .i64 0] ∧
      SX.St w [] w' [SX.Ent.row (.slice B n co) 5 1 n (ints .u8 (l.map sgn))]) := by
  have hs := SX.St.start w
  refine Z.enter Try.func37 rfl Try.ntmps37 rfl rfl ?_
  refine Z.seq ?_
  refine Z.region ?_
  refine Z.le rfl trivial ?_
  refine Z.ZO.box rfl rfl (by rfl) rfl rfl hs ?_
  clear hs; intro g1 w1 hs
  refine Z.lb 2 rfl ?_
  refine Z.lnil ?_
  refine Z.only [1] rfl ?_
  refine Z.nthen ?_
  refine Z.seq ?_
  refine Z.drawK (fun _ => true) mixed hs ?_
  clear hs; intro wd1 hs
  refine Z.t 0 rfl rfl rfl (by rfl) (by kernel_rfl) ⟨_, hs, by first | (simp; done) | exact fun e he => List.mem_append_right _ he⟩ (by first | exact Z.Yd.load rfl Try.isAgg38 (fun _ => Z.cellB (by first | ((repeat (first | exact List.mem_cons_self | refine List.mem_cons_of_mem _ ?_ | refine List.mem_append_right _ ?_)); done) | fail) rfl) | exact Z.Yd.load rfl Try.isAgg38 (fun _ => Z.cellO (by assumption) (by simp) (by assumption)) | fail "load 1.0") ?_
  refine Z.t 3 rfl rfl rfl (by rfl) (by kernel_rfl) ⟨_, hs, by first | (simp; done) | exact fun e he => List.mem_append_right _ he⟩ (by first | exact Z.Yd.load rfl Try.isAgg38 (fun _ => Z.cellB (by first | ((repeat (first | exact List.mem_cons_self | refine List.mem_cons_of_mem _ ?_ | refine List.mem_append_right _ ?_)); done) | fail) rfl) | exact Z.Yd.load rfl Try.isAgg38 (fun _ => Z.cellO (by assumption) (by simp) (by assumption)) | fail "load 1.3") ?_
  refine Z.t 4 rfl rfl rfl (by rfl) (by kernel_rfl) ⟨_, hs, by first | (simp; done) | exact fun e he => List.mem_append_right _ he⟩ (Z.Yd.lenS rfl Try.underlying38) ?_
  refine Z.tb [5] (by kernel_rfl) rfl ⟨_, hs, by first | (simp; done) | exact fun e he => List.mem_append_right _ he⟩ rfl ?_
  refine Z.tn 1 rfl rfl (by kernel_rfl) rfl trivial ?_
  refine Z.ZO.call rfl rfl (by rfl) rfl rfl Try.call49 rfl (valid_soft A n c l _ (hx.st (hs.sub (List.nil_sublist _))) hl hn hs8) ?_
  rintro v1_1 w1_1 ⟨rfl, hy⟩
  replace hs := hs.call hy
  clear hy
  try simp only [List.cons_append, List.nil_append, List.append_nil] at hs
  refine Z.tk (Dn := fun _ => true) (i := 1) (fun _ => ⟨_, hs, by first | (simp; done) | exact fun e he => List.mem_append_right _ he⟩) ?_
  refine Z.tn 2 rfl rfl (by kernel_rfl) rfl trivial ?_
  refine Z.ZO.call rfl rfl (by rfl) rfl rfl Try.call48 rfl (arg_true _) ?_
  rintro v1_2 w1_2 ⟨rfl, hy⟩
  replace hs := hs.call hy
  clear hy
  try simp only [List.cons_append, List.nil_append, List.append_nil] at hs
  refine Z.tk (Dn := fun _ => true) (i := 2) (fun _ => ⟨_, hs, by first | (simp; done) | exact fun e he => List.mem_append_right _ he⟩) ?_
  have hof : ∀ j, j < n → ∀ W L, SX.St w1_2 [] W L → Calls Try.prog 50 #[.int .i64 (j : Int), .pointer (some ⟨g1, 0, none⟩)] W (SX.Ret fun r w' => r = .int .u8 (sgn (elt l (j : Int))) ∧ SX.St W [] w' []) := fun j hj W L hW => by
    obtain ⟨h1, h2⟩ := blk_later hs (j := 0) rfl hW rfl
    exact hard1_any A n c l g1 j W ((hx.st (hs.sub (List.nil_sublist _))).st (hW.sub (List.nil_sublist _))) hl hj hn h1 h2
  refine Z.tn 6 rfl rfl (by kernel_rfl) rfl trivial ?_
  refine Z.ZO.call rfl rfl (by rfl) rfl rfl Try.call47 rfl (mapped8 n g1 _ _ hn hof) ?_
  rintro v1_6 w1_6 ⟨B, co, rfl, hy⟩
  replace hs := hs.call hy
  clear hy
  try simp only [List.cons_append, List.nil_append, List.append_nil] at hs
  refine Z.tk (Dn := fun _ => true) (i := 6) (fun _ => ⟨_, hs, by first | (simp; done) | exact fun e he => List.mem_append_right _ he⟩) ?_
  refine Z.tb [7, 8, 9, 10] (by kernel_rfl) rfl ⟨_, hs, by first | (simp; done) | exact fun e he => List.mem_append_right _ he⟩ rfl ?_
  refine Z.td (by rfl) (by kernel_rfl) ?_
  refine Z.only [2, 3] rfl ?_
  refine Z.nthen ?_
  refine Z.ret ?_
  -- ret#0
  refine Z.out2 (by exact ⟨rfl, rfl, trivial⟩) ?_
  have e : (List.range n).map (fun j : Nat => sgn (elt l (j : Int))) = l.map sgn := by
    apply List.ext_getElem?
    intro i
    rw [List.getElem?_map, List.getElem?_map]
    by_cases hi : i < n
    · rw [List.getElem?_range hi, List.getElem?_eq_getElem (by omega)]
      simp [elt, show i < l.length by omega]
    · rw [List.getElem?_eq_none (by simp; omega), List.getElem?_eq_none (by omega)]
      rfl
  rw [e] at hs
  exact ⟨_, rfl, B, co, rfl, hs.sub (List.cons_sublist_cons.2 (List.nil_sublist _))⟩

theorem sfv_soft (n : Nat) (y : Int) (i : Nat) : soft8 (sfv n y i) := by unfold sfv clampv soft8; omega
theorem dml_soft (n : Nat) (ps : List (Int × Int)) : ∀ x ∈ dml n ps, soft8 x := by
  intro x hx
  simp only [dml, ilv, List.mem_flatMap, List.mem_range, List.mem_cons, List.not_mem_nil, or_false] at hx
  obtain ⟨p, _, i, _, rfl | rfl⟩ := hx <;> exact sfv_soft _ _ _
theorem decide_bad (A : Option Addr) (n c : Nat) (m e : Int) (w : World) (he : e ≠ 0)
    (h : ∀ W L, SX.St w [] W L → Calls Try.prog 17 #[.int .i64 m, .slice A n c] W (SX.Ret fun v w' => v = .tuple #[.slice none 0 0, .int .i64 e] ∧ SX.St W [] w' [])) :
    Calls Try.prog 18 #[.int .i64 m, .slice A n c] w (SX.Ret fun v w' => v = .tuple #[.slice none 0 0, .int .i64 e] ∧ SX.St w [] w' []) := by
  have hs := SX.St.start w
  refine Z.enter Try.func18 rfl Try.ntmps18 rfl rfl ?_
  refine Z.seq ?_
  refine Z.region ?_
  refine Z.lb 2 rfl ?_
  refine Z.lnil ?_
  refine Z.only [0, 1] rfl ?_
  refine Z.nthen ?_
  refine Z.seq ?_
  refine Z.region ?_
  refine Z.lb 2 rfl ?_
  refine Z.le rfl trivial ?_
  refine Z.ZO.call rfl rfl (by rfl) rfl rfl Try.call17 rfl (h _ _ hs) ?_
  rintro v1_2 w1_2 ⟨rfl, hy⟩
  replace hs := hs.call hy
  clear hy
  try simp only [List.cons_append, List.nil_append, List.append_nil] at hs
  refine Z.lb 5 rfl ?_
  refine Z.lnil ?_
  refine Z.only [6, 7] rfl ?_
  refine Z.nthen ?_
  refine Z.seq ?_
  refine Z.seq ?_
  refine Z.region ?_
  refine Z.lb 2 rfl ?_
  refine Z.lnil ?_
  refine Z.only [6, 7, 15] rfl ?_
  refine Z.nthen ?_
  refine Z.cond rfl (fun hc2 => ?_) (fun h => absurd h (by simpa using he))
  refine Z.seq ?_
  refine Z.region ?_
  refine Z.lb 3 rfl ?_
  refine Z.lnil ?_
  refine Z.only [4, 5] rfl ?_
  refine Z.nthen ?_
  refine Z.ret ?_
  repeat (first | refine Z.rthen ?_ | refine Z.rblock ?_ | refine Z.rscope ?_)
  -- ret#0
  refine Z.out2 (by exact ⟨rfl, rfl, trivial⟩) ?_
  first | exact ⟨_, rfl, rfl, hs⟩ | exact ⟨_, rfl, rfl, hs.sub (List.nil_sublist _)⟩
theorem decide_ok (A : Option Addr) (np c n : Nat) (ps : List (Int × Int)) (w : World) (hr : Sl w A (pcells ps)) (hl : ps.length = np) (hnp : np ≤ 600) (hn : 1 ≤ n) (hn3 : n ≤ 3) (hi : ∀ p ∈ ps, ins p = true) :
    Calls Try.prog 18 #[.int .i64 ((2 * n : Nat) : Int), .slice A np c] w (SX.Ret fun v w' => ∃ B co, v = .tuple #[.slice B (np * (2 * n)) (np * (2 * n)), .int .i64 0] ∧
      SX.St w [] w' [SX.Ent.row (.slice B (np * (2 * n)) co) 5 1 (np * (2 * n)) (ints .u8 ((dml n ps).map sgn))]) := by
  have hs := SX.St.start w
  have hdl := dml_length n ps
  have hb : np * (2 * n) ≤ 600 * 6 := Nat.mul_le_mul hnp (by omega)
  refine Z.enter Try.func18 rfl Try.ntmps18 rfl rfl ?_
  refine Z.seq ?_
  refine Z.region ?_
  refine Z.lb 2 rfl ?_
  refine Z.lnil ?_
  refine Z.only [0, 1] rfl ?_
  refine Z.nthen ?_
  refine Z.seq ?_
  refine Z.region ?_
  refine Z.lb 2 rfl ?_
  refine Z.le rfl trivial ?_
  refine Z.ZO.call rfl rfl (by rfl) rfl rfl Try.call17 rfl (demod_ok A np c n ps _ (hr.st hs) hl hnp hn hn3 hi) ?_
  rintro v1_2 w1_2 ⟨sv, rfl, hy⟩
  replace hs := hs.call hy
  clear hy
  try simp only [List.cons_append, List.nil_append, List.append_nil] at hs
  refine Z.lb 5 rfl ?_
  refine Z.lnil ?_
  refine Z.only [6, 7] rfl ?_
  refine Z.nthen ?_
  refine Z.seq ?_
  refine Z.seq ?_
  refine Z.region ?_
  refine Z.lb 2 rfl ?_
  refine Z.lnil ?_
  refine Z.only [6, 7, 15] rfl ?_
  refine Z.nthen ?_
  refine Z.cond rfl (fun h => absurd h (by simp)) (fun hc2 => ?_)
  refine Z.skip ?_
  refine Z.nthen ?_
  refine Z.seq ?_
  refine Z.region ?_
  refine Z.lb 1 rfl ?_
  obtain ⟨Ad, cd, rfl, -, -, -⟩ := SX.row_slv hs (j := 0) rfl
  refine Z.le rfl trivial ?_
  refine Z.ZO.call rfl rfl (by rfl) rfl rfl Try.call37 rfl (hard_any Ad _ cd (dml n ps) _ (SX.row_slB hs (j := 0) rfl) (by rw [hdl, hl]) (by omega) (dml_soft n ps)) ?_
  rintro v4_1 w4_1 ⟨B, co, rfl, hy⟩
  replace hs := hs.call hy
  clear hy
  try simp only [List.cons_append, List.nil_append, List.append_nil] at hs
  refine Z.lb 4 rfl ?_
  refine Z.lnil ?_
  refine Z.only [4, 5] rfl ?_
  refine Z.nthen ?_
  refine Z.ret ?_
  -- ret#0
  refine Z.out2 (by exact ⟨rfl, rfl, trivial⟩) ?_
  exact ⟨_, rfl, B, co, rfl, hs.sub (List.cons_sublist_cons.2 (List.nil_sublist _))⟩
end Go.Proofs.Ythncbdoiilgnhaa

/- Arguments of any shape, asz they read, with what is known of their sizes. -/
namespace Go.Proofs.Ythncbdoiilgnhaa
open Go.ChangeShapes Go.WideShapes Go.ChangeAt Go.RowKit
set_option linter.unusedVariables false
set_option linter.unusedSimpArgs false

/-- the cells cs read asz a value of type t, none of its slices larger than an address space -/
def Rw (P : Program) (W : World) (t : TypeId) (cs : List Value) : Prop :=
  ∃ (H : Type) (enc : TypeId × Value → H) (fuel : Nat) (x : DataW H × List MemPlace), DataW.trod enc P W 0 (fun _ => true) true fuel t cs = some x ∧ ∀ n ∈ x.1.weights P t, n ≤ reachBytes

variable {P : Program} {W : World} {t e : TypeId} {cs : List Value} {k : IntKind}

theorem Rw.rd (h : Rw P W t cs) : Rd P W t cs := by
  obtain ⟨H, enc, fuel, x, h, -⟩ := h
  exact ⟨H, enc, fuel, x, h⟩
theorem Rw.of {H : Type} {enc : TypeId × Value → H} {v : Value} {d : DataW H} {p : List MemPlace} {ts : List TypeId} {ds : List (DataW H)} (j : Nat) (hsz : (DataW.weightsEach P ts ds).all (· ≤ reachBytes) = true) (h : DataW.Trod enc P W 0 (fun _ => true) true t v d p) (ht : ts[j]? = some t) (hd : ds[j]? = some d) : Rw P W t v.cells.toList := by
  obtain ⟨fuel, h⟩ := h
  refine ⟨H, enc, fuel, _, h, fun n hn => ?_⟩
  have := List.all_eq_true.1 hsz n (DataW.weights_mem_each ht hd n hn)
  simpa using this
theorem Rw.int (ht : P.underlying t = some (.int k)) (h : Rw P W t cs) : ∃ n, cs = [.int k n] ∧ (Lit.int k n).wf = true := Rd.int ht h.rd
theorem Rw.bool (ht : P.underlying t = some .bool) (h : Rw P W t cs) : ∃ b, cs = [.bool b] := Rd.bool ht h.rd
theorem Rw.field {fs : Array Field} (ht : P.underlying t = some (.struct fs)) (h : Rw P W t cs) :
    cs.length = P.cellsOf t ∧ ∀ (i : Nat) (f : Field), fs[i]? = some f → Rw P W f.type ((cs.drop f.offset).take (P.cellsOf f.type)) := by
  obtain ⟨H, enc, fuel, x, h, hw⟩ := h
  obtain ⟨xs, n, _, rfl, h1, h2, h3⟩ := DataW.trod_struct ht h
  refine ⟨h1, fun i f hf => ?_⟩
  have h4 := h3 i f hf
  have hi : i < xs.length := by
    rw [h2]
    exact (Array.getElem?_eq_some_iff.1 hf).1
  rw [List.getElem?_eq_getElem hi] at h4
  refine ⟨H, enc, n, _, h4, fun m hm => hw m ?_⟩
  simp only [DataW.weights, ht]
  refine DataW.weights_mem_each (j := i) ?_ ?_ m hm
  · rw [List.getElem?_map, Array.getElem?_toList, hf]; rfl
  · rw [List.getElem?_map, List.getElem?_eq_getElem hi]; rfl
theorem Rw.weightsAll {H : Type} : ∀ {l : List (DataW H)} {d : DataW H}, d ∈ l → ∀ n ∈ d.weights P e, n ∈ DataW.weightsAll P e l
  | d0 :: l, d, hd, n, hn => by
    simp only [DataW.weightsAll, List.mem_append]
    rcases List.mem_cons.1 hd with rfl | hd
    · exact .inl hn
    · exact .inr (Rw.weightsAll hd n hn)
theorem Rw.array {n : Nat} (ht : P.underlying t = some (.array n e)) (h : Rw P W t cs) :
    cs.length = P.cellsOf t ∧ ∀ i, i < n → Rw P W e ((cs.drop (i * P.cellsOf e)).take (P.cellsOf e)) := by
  obtain ⟨H, enc, fuel, x, h, hw⟩ := h
  obtain ⟨xs, m, _, rfl, h1, h2, h3⟩ := DataW.trod_array ht h
  refine ⟨h1, fun i hi => ?_⟩
  have h4 := h3 i hi
  rw [List.getElem?_eq_getElem (by omega)] at h4
  refine ⟨H, enc, m, _, h4, fun q hq => hw q ?_⟩
  simp only [DataW.weights, ht]
  exact Rw.weightsAll (List.mem_map_of_mem (List.getElem_mem (by omega))) q hq
theorem Rw.slice (ht : P.underlying t = some (.slice e)) (h : Rw P W t cs) :
    cs = [.slice none 0 0] ∨ ∃ (a : Addr) (len cap : Nat) (rows : List (List Value)), cs = [.slice (some a) len cap] ∧ len ≤ cap ∧ cap ≤ maxLen ∧ len * P.bytesOf e ≤ reachBytes ∧ rows.length = len ∧
      ∀ i r, rows[i]? = some r → W.cells? 0 (a.add (i * P.cellsOf e)) (P.cellsOf e) = some r ∧ Rw P W e r := by
  obtain ⟨H, enc, fuel, x, h, hw⟩ := h
  rcases DataW.trod_slice ht h with ⟨h1, _⟩ | ⟨a, len, cap, elems, rest, n, _, h1, rfl, _, h2, h3, h4, h5, _⟩
  · exact .inl h1
  · have hb : len * P.bytesOf e ≤ reachBytes := by
      have h6 := hw ((elems.length + rest.length) * P.bytesOf e) (by simp [DataW.weights, ht])
      refine Nat.le_trans (Nat.mul_le_mul_right _ ?_) h6
      omega
    refine .inr ⟨a, len, cap, (List.range len).map fun i => (W.cells? 0 (a.add (i * P.cellsOf e)) (P.cellsOf e)).getD [], h1, h2, h3, hb, by simp, fun i r hr => ?_⟩
    rw [List.getElem?_map] at hr
    obtain ⟨i', hi', hr⟩ := Option.map_eq_some_iff.1 hr
    have hi : i < len := by
      have := (List.getElem?_eq_some_iff.1 hi').1
      simpa using this
    rw [List.getElem?_range hi] at hi'
    obtain rfl : i = i' := by simpa using hi'
    have h6 := h5 i hi
    rw [List.getElem?_eq_getElem (by omega)] at h6
    obtain ⟨r', h7, h8⟩ := Option.bind_eq_some_iff.1 h6
    rw [h7] at hr
    obtain rfl : r' = r := by simpa using hr
    refine ⟨h7, H, enc, n, _, h8, fun q hq => hw q ?_⟩
    simp only [DataW.weights, ht, List.mem_cons, List.mem_append]
    exact .inr (.inl (Rw.weightsAll (List.mem_map_of_mem (List.getElem_mem (by omega))) q hq))
theorem Rw.sliceV (ht : P.underlying t = some (.slice e)) (h : Rw P W t cs) : ∃ A n c, cs = [.slice A n c] := by
  rcases Rw.slice ht h with h1 | ⟨a, len, cap, rows, h1, -⟩
  · exact ⟨none, 0, 0, h1⟩
  · exact ⟨some a, len, cap, h1⟩
/-- a slice whose elements decode -/
theorem Rw.rows {α : Type} {A : Option Addr} {n c : Nat} (enc : α → List Value) (Good : α → Prop) (ht : P.underlying t = some (.slice e)) (hpos : 0 < P.cellsOf e)
    (dec : ∀ r, Rw P W e r → ∃ x, r = enc x ∧ Good x) (hsz : ∀ x, (enc x).length = P.cellsOf e) (h : Rw P W t [.slice A n c]) :
    ∃ xs : List α, xs.length = n ∧ n ≤ c ∧ c ≤ maxLen ∧ n * P.bytesOf e ≤ reachBytes ∧ (∀ x ∈ xs, Good x) ∧ Sl W A (xs.flatMap enc) := by
  rcases Rw.slice ht h with h1 | ⟨a, len, cap, rows, h1, h2, h3, hw, h4, h5⟩
  · simp only [List.cons.injEq, Value.slice.injEq, and_true] at h1
    obtain ⟨rfl, rfl, rfl⟩ := h1
    exact ⟨[], rfl, Nat.le_refl _, Nat.zero_le _, by simp, by simp, fun hp => by simp at hp⟩
  · simp only [List.cons.injEq, Value.slice.injEq, and_true] at h1
    obtain ⟨rfl, rfl, rfl⟩ := h1
    have key : ∀ (l : List (List Value)), (∀ r ∈ l, Rw P W e r) → ∃ xs : List α, l = xs.map enc ∧ ∀ x ∈ xs, Good x := by
      intro l
      induction l with
      | nil => intro _; exact ⟨[], rfl, by simp⟩
      | cons r l ih =>
        intro hl
        obtain ⟨x, rfl, hx⟩ := dec r (hl r (by simp))
        obtain ⟨xs, rfl, hxs⟩ := ih (fun r hr => hl r (by simp [hr]))
        exact ⟨x :: xs, rfl, fun y hy => by
          rcases List.mem_cons.1 hy with rfl | hy
          · exact hx
          · exact hxs y hy⟩
    obtain ⟨xs, hxs, hG⟩ := key rows (fun r hr => by
      obtain ⟨i, hi⟩ := List.getElem?_of_mem hr
      exact (h5 i r hi).2)
    have hlen : xs.length = n := by rw [← h4, hxs, List.length_map]
    refine ⟨xs, hlen, h2, h3, hw, hG, fun hp => ?_⟩
    -- the cells, one by one
    have hcell : ∀ (i : Nat) (x : α), xs[i]? = some x → ∀ (j : Nat) (u : Value), (enc x)[j]? = some u → W.cell? ((a.add (i * P.cellsOf e)).add j) = some u := by
      intro i x hx j u hu
      have hr : rows[i]? = some (enc x) := by
        rw [hxs, List.getElem?_map, hx]
        rfl
      exact (cells_len (h5 i _ hr).1).2 j u hu
    have hn0 : 0 < n := by
      rw [← hlen]
      cases xs with
      | nil => simp at hp
      | cons x xs => simp
    -- the address has no spot
    have hspot : a.spot = none := by
      have hx0 : xs[0]? = some (xs[0]'(by omega)) := List.getElem?_eq_getElem (by omega)
      have hl0 := hsz (xs[0]'(by omega))
      have := hcell 0 _ hx0 0 _ (List.getElem?_eq_getElem (by omega))
      have e0 : (a.add (0 * P.cellsOf e)).add 0 = a := by simp [Addr.add]
      rw [e0] at this
      unfold World.cell? at this
      split at this
      · cases hs : a.spot with
        | none => rfl
        | some s => simp [hs] at this
      · cases this
    obtain ⟨b, off, sp⟩ := a
    simp only at hspot
    subst hspot
    have hadd : ∀ o m, (⟨b, o, none⟩ : Addr).add m = ⟨b, o + m, none⟩ := fun o m => by
      unfold Addr.add
      split
      · rename_i h; rw [h]; rfl
      · rfl
    have hall : ∀ (ys : List α) (i : Nat), (∀ j, j < ys.length → xs[i + j]? = ys[j]?) → i + ys.length ≤ n → ∀ m u, (ys.flatMap enc)[m]? = some u → W.cell? ⟨b, off + (i * P.cellsOf e + m), none⟩ = some u := by
      intro ys
      induction ys with
      | nil => intro i _ _ m u hu; simp at hu
      | cons y ys ih =>
        intro i hy hle m u hu
        simp only [List.length_cons] at hle
        rw [List.flatMap_cons] at hu
        have hyl := hsz y
        by_cases hm : m < P.cellsOf e
        · rw [List.getElem?_append_left (by omega)] at hu
          have h0 := hy 0 (by simp)
          simp at h0
          have := hcell i y h0 m u hu
          rw [hadd, hadd] at this
          rw [← Nat.add_assoc]
          exact this
        · rw [List.getElem?_append_right (by omega), hyl] at hu
          have := ih (i + 1) (fun j hj => by
            have := hy (j + 1) (by simp; omega)
            rw [show i + 1 + j = i + (j + 1) from by omega, this]
            simp) (by omega) (m - P.cellsOf e) u hu
          rw [Nat.add_mul, Nat.one_mul] at this
          rw [show i * P.cellsOf e + m = i * P.cellsOf e + P.cellsOf e + (m - P.cellsOf e) from by omega]
          exact this
    have hfin := hall xs 0 (fun j _ => by simp) (by omega)
    simp only [Nat.zero_mul, Nat.zero_add] at hfin
    refine ⟨b, off, rfl, ?_, fun j u hu => hfin j u hu⟩
    have hpp : 0 < (xs.flatMap enc).length := hp
    have := hfin 0 _ (List.getElem?_eq_getElem hpp)
    exact World.block_lt_of_cell? _ _ this
end Go.Proofs.Ythncbdoiilgnhaa

/- Elements of rows of structs: read and written. -/
namespace Go.Proofs.Ythncbdoiilgnhaa
open Go.RowKit
set_option linter.unusedVariables false
set_option linter.unusedSimpArgs false
namespace Z
/-- field j of element i -/
theorem flat_pos {α : Type} {enc : α → List Value} {s : Nat} {xs : List α} {i j : Nat} {x : α} {u : Value} (hs : ∀ x, (enc x).length = s) (hx : xs[i]? = some x) (hj : (enc x)[j]? = some u) : (xs.flatMap enc)[0 + (i : Int).toNat * s + j]? = some u := by
  have hjs : j < s := by
    rw [← hs x]
    exact (List.getElem?_eq_some_iff.1 hj).1
  rw [Nat.zero_add, Int.toNat_natCast]
  exact (flat_get hs hx hjs).trans hj
theorem flat_set {α β : Type} {enc : α → List β} {s : Nat} (hs : ∀ x, (enc x).length = s) : ∀ {xs : List α} {i j : Nat} {x x' : α} {u : β}, xs[i]? = some x → j < s → enc x' = (enc x).set j u → (xs.flatMap enc).set (i * s + j) u = (xs.set i x').flatMap enc
  | [], i, j, x, x', u, h, _, _ => by simp at h
  | y :: xs, 0, j, x, x', u, h, hj, he => by
    obtain rfl : y = x := by simpa using h
    rw [Nat.zero_mul, Nat.zero_add, List.set_cons_zero, List.flatMap_cons, List.flatMap_cons, List.set_append_left _ _ (by rw [hs]; exact hj), he]
  | y :: xs, i + 1, j, x, x', u, h, hj, he => by
    have h' : xs[i]? = some x := by simpa using h
    rw [List.set_cons_succ, List.flatMap_cons, List.flatMap_cons, List.set_append_right _ _ (by rw [hs, Nat.add_mul]; omega), hs, show (i + 1) * s + j - s = i * s + j from by rw [Nat.add_mul]; omega, flat_set hs h' hj he]
theorem flat_put {α : Type} {enc : α → List Value} {s : Nat} {xs : List α} {i j : Nat} {x : α} (x' : α) {u : Value} (hs : ∀ x, (enc x).length = s) (hx : xs[i]? = some x) (hj : j < s) (he : enc x' = (enc x).set j u) : (xs.flatMap enc).set (0 + (i : Int).toNat * s + j) u = (xs.set i x').flatMap enc := by
  rw [Nat.zero_add, Int.toNat_natCast]
  exact flat_set hs hx hj he
end Z
end Go.Proofs.Ythncbdoiilgnhaa

/- Panics, recover, and calls that were put off while a panic goes through. -/
namespace Go.Proofs.Ythncbdoiilgnhaa
open Go.RowKit
set_option linter.unusedVariables false
set_option linter.unusedSimpArgs false
namespace SX
section
variable {F : Fence} {n : Nat} {P : Program} {ops : Array Oper} {Q : Exit → Act → World → Prop} {md : Region.Mode} {S : World → Prop} {D : Nat → Bool}
/-- asz `wpAnyS_first`; T names what comes behind i, near or far -/
theorem wpAnyS_firstT {i : Nat} {oi : Oper} {v : Value} (T : Nat → Bool) (hTi : T i = true) (hF : ∀ f, F.fn f) (hi : ops[i]? = some oi) (hsel : ∀ (j : Nat) (o : Oper) cs b, ops[j]? = some o → o.op ≠ .select cs b)
    (hdef : ∀ (j : Nat) (o : Oper) c, ops[j]? = some o → o.op ≠ .defer c)
    (hT : ∀ (j : Nat) (oj : Oper), ops[j]? = some oj → T j = true → j ≠ i → ∃ e ∈ oj.after, Region.binds md e = true ∧ T e.on = true)
    (hD : ∀ (j : Nat) (oj : Oper), ops[j]? = some oj → T j = false → D j = true)
    (hQ : ∀ c a w, Q (.panic c) (a.put oi.dst v) w → Q (.panic c) a w) :
    ∀ (fuel : Nat) (listed : Array Bool) (a : Act) (w : World),
      (∀ j, T j = true → listed[j]? = some false) →
      (∀ j oj, ops[j]? = some oj → T j = false → listed.getD j true = false → oi.apart ops oj = true) →
      i ∈ Region.ready md ops listed → YieldsS P ops S oi v a → S w →
      wpAnyS F n P md ops Q S D fuel (listed.setIfInBounds i true) (a.put oi.dst v) w → wpAnyS F n P md ops Q S D (fuel + 1) listed a w := by
  intro fuel
  induction fuel with
  | zero =>
    intro listed a w _ _ hr hy hS H
    refine ⟨fun h => (by rw [h] at hr; cases hr), fun j hj => ?_⟩
    by_cases hji : j = i
    · subst hji; exact hy.wpOpIn hF hi (fun c => hdef _ _ c hi) hS ⟨fun _ => hS, H⟩
    · have := ready_mono hj hji
      rw [H.1] at this
      cases this
  | succ fuel ih =>
    intro listed a w hun hfree hr hy hS H
    refine ⟨fun h => (by rw [h] at hr; cases hr), fun j hj => ?_⟩
    by_cases hji : j = i
    · subst hji; exact hy.wpOpIn hF hi (fun c => hdef _ _ c hi) hS ⟨fun _ => hS, H⟩
    · have h1 := H.2 j (ready_mono hj hji)
      obtain ⟨hjun, oj, hoj, hall⟩ := mem_ready.1 hj
      have hTj : T j = false := by
        cases hb : T j with
        | false => rfl
        | true =>
          obtain ⟨e, he, hbd, hTe⟩ := hT j oj hoj hb hji
          have h2 := hall e he hbd
          have h3 := hun _ hTe
          rw [Array.getD_eq_getD_getElem?, h3] at h2
          cases h2
      have h2 := wpOpIn_putS hF hoj (hfree j oj hoj hTj hjun) (fun cs b => hsel i oi cs b hi) (fun cs b => hsel j oj cs b hoj) (fun c => hdef j oj c hoj) hQ hy h1
      have hun' : ∀ k, T k = true → (listed.setIfInBounds j true)[k]? = some false := fun k hk => by
        rw [Array.getElem?_setIfInBounds_ne (fun e => by rw [e, hk] at hTj; cases hTj)]
        exact hun k hk
      have hfree' : ∀ k ok, ops[k]? = some ok → T k = false → (listed.setIfInBounds j true).getD k true = false → oi.apart ops ok = true := fun k ok hk hki hun => by
        refine hfree k ok hk hki ?_
        by_cases hjk : j = k
        · subst hjk; exact hjun
        · rw [getD_set_ne true hjk] at hun; exact hun
      refine wpOpIn_mono (fun a' w' h3 => ⟨h3.2.1, ih (listed.setIfInBounds j true) a' w' hun' hfree' (ready_mono hr (Ne.symm hji)) h3.1 (h3.2.1 (hD j oj hoj hTj)) ?_⟩) h2
      rw [Array.setIfInBounds_comm _ _ hji]
      exact h3.2.2
/-- the side conditions, asz one Bool -/
def mayTakeT (md : Region.Mode) (ops : Array Oper) (D : Nat → Bool) (listed : Array Bool) (i : Nat) (T : List Nat) : Bool :=
  Region.noSelect ops && noDefer ops && T.contains i && (T.all fun j => j == i || match ops[j]? with | some o => o.after.toList.any (fun e => Region.binds md e && T.contains e.on) | none => false) &&
    (T.all fun j => match listed[j]? with | some b => !b | none => false) && ((List.range ops.size).all fun j => T.contains j || D j) &&
    ((List.range ops.size).all fun j => T.contains j || listed.getD j true || match ops[i]?, ops[j]? with | some oi, some oj => oi.apart ops oj | _, _ => false) && (Region.ready md ops listed).contains i
theorem mayTakeT_spec {listed : Array Bool} {i : Nat} {oi : Oper} {T : List Nat} (h : mayTakeT md ops D listed i T = true) (hi : ops[i]? = some oi) :
    (∀ (j : Nat) (oj : Oper), ops[j]? = some oj → (T.contains j) = true → j ≠ i → ∃ e ∈ oj.after, Region.binds md e = true ∧ T.contains e.on = true) ∧ (∀ (j : Nat) (oj : Oper), ops[j]? = some oj → T.contains j = false → D j = true) ∧
    (∀ j, T.contains j = true → listed[j]? = some false) ∧ (∀ j oj, ops[j]? = some oj → T.contains j = false → listed.getD j true = false → oi.apart ops oj = true) := by
  simp only [mayTakeT, Bool.and_eq_true] at h
  obtain ⟨⟨⟨⟨⟨⟨⟨h1, h2⟩, h3⟩, h4⟩, h5⟩, h6⟩, h7⟩, h8⟩ := h
  refine ⟨fun j oj hj hTj hji => ?_, fun j oj hj hTj => ?_, fun j hTj => ?_, fun j oj hj hTj hun => ?_⟩
  · have := List.all_eq_true.1 h4 j (by simpa using hTj)
    simp only [hj, Bool.or_eq_true, beq_iff_eq, hji, false_or] at this
    obtain ⟨e, he, h9⟩ := List.any_eq_true.1 this
    simp only [Bool.and_eq_true] at h9
    exact ⟨e, by simpa using he, h9⟩
  · have := List.all_eq_true.1 h6 j (List.mem_range.2 (Array.getElem?_eq_some_iff.1 hj).1)
    rw [hTj] at this
    simpa using this
  · have := List.all_eq_true.1 h5 j (by simpa using hTj)
    revert this
    cases listed[j]? with
    | none => simp
    | some b => cases b <;> simp
  · have := List.all_eq_true.1 h7 j (List.mem_range.2 (Array.getElem?_eq_some_iff.1 hj).1)
    rw [hTj, hun, hi, hj] at this
    simpa using this
end
end SX
namespace Z
variable {N : Nat} {E : Env} {D : List Deferred} {G : Guards} {F : Fence} {n : Nat} {P : Program} {S : World → Prop} {ops : Array Oper} {o : Oper} {v : Value} {Q : Exit → Act → World → Prop} {w : World} {d : Nat} {Dn : Nat → Bool}
/-- number i is taken first; T: what comes behind it, near or far -/
theorem tX [Wide F] {done : List Nat} (i : Nat) (T : List Nat) (hi : ops[i]? = some o) (hG : effG ops E o = some G) (hd : o.dst = some d) (hc : chk N d E G = true) (hm : (left ops done && SX.mayTakeT .any ops Dn (flags ops.size done) i T) = true)
    (hS : S w) (y : Yd P N D S E G o.op v) (h : Z N ((d, G, v) :: E) D (wpD F n P ops Q S Dn (i :: done)) w) : Z N E D (wpD F n P ops Q S Dn done) w := by
  classical
  simp only [Bool.and_eq_true] at hm
  intro a ha
  obtain ⟨h1, h2, h3⟩ := chk_spec hc
  have hw := wanted_of (ops := ops) (o := o) ha hG
  unfold wpD
  rw [fuel_eq (i := i) hm.1]
  have hmt := hm.2
  obtain ⟨q1, q2, q3, q4⟩ := SX.mayTakeT_spec hmt hi
  have hmt' := hmt
  simp only [SX.mayTakeT, Bool.and_eq_true] at hmt'
  obtain ⟨⟨⟨⟨⟨⟨⟨k1, k2⟩, k3⟩, -⟩, -⟩, -⟩, -⟩, k8⟩ := hmt'
  have hQ : ∀ u : Value, ∀ c a w, SX.NP Q (.panic c) (a.put o.dst u) w → SX.NP Q (.panic c) a w := fun u c a w h => h.elim
  by_cases hg : gholds a G
  · exact SX.wpAnyS_firstT (fun j => T.contains j) k3 (fun f => Wide.fn f) hi (Region.noSelect_spec k1) (SX.noDefer_spec k2) q1 q2 (hQ v) _ _ a w q3 q4 (by simpa using k8) (.inl ⟨hw.2 hg, fun w hS => y.2 a ha hg o rfl w hS⟩) hS (by
      rw [hd]
      exact h _ (ha.put h1 h2 h3 (by rw [if_pos hg])))
  · exact SX.wpAnyS_firstT (fun j => T.contains j) k3 (fun f => Wide.fn f) hi (Region.noSelect_spec k1) (SX.noDefer_spec k2) q1 q2 (hQ undef) _ _ a w q3 q4 (by simpa using k8) (.inr ⟨(by
      cases hb : Region.wanted o (yielded ops a.tmps) with
      | false => rfl
      | true => exact absurd (hw.1 hb) hg), rfl⟩) hS (by
      rw [hd]
      exact h _ (ha.put h1 h2 h3 (by rw [if_neg hg])))

/-! ## drawn regions out of which a panic may come -/
def wpP (F : Fence) (n : Nat) (P : Program) (ops : Array Oper) (Q : Exit → Act → World → Prop) (S : World → Prop) (Dn : Nat → Bool) (done : List Nat) : Act → World → Prop :=
  SX.wpAnyS F n P .any ops Q S Dn (ops.size - done.length) (flags ops.size done)
/-- what is asked of a panic does not hang on the registers -/
def PQ (Q : Exit → Act → World → Prop) : Prop := ∀ (c : List PanicEntry) (a : Act) (d : Nat) (u : Value) (w : World), Q (.panic c) (a.put (some d) u) w → Q (.panic c) a w
theorem drawP {id : Nat} {w0 : World} {M : List Nat} {L : List SX.Ent} (Ls : List SX.Ent) (Dn : Nat → Bool) (hm : P.follows .mixedOrders = true) (hs : SX.St w0 M w L) (h : ∀ w', SX.St w0 M w' L → Z N E D (wpP F n P ops Q (SX.Keep w0 M Ls) Dn []) w') : Z N E D ((Code.region id ops true).wpIn F n P Q) w :=
  fun a ha => wpIn_region_any hm (SX.wpAnyIn_of_S _ _ _ _ (h _ hs.drew a ha))
theorem drawPK {id : Nat} {w0 : World} {M : List Nat} {L : List SX.Ent} (Dn : Nat → Bool) (hm : P.follows .mixedOrders = true) (hs : SX.St w0 M w L) (h : ∀ w', SX.St w0 M w' L → Z N E D (wpP F n P ops Q (SX.Keep w0 M L) Dn []) w') : Z N E D ((Code.region id ops true).wpIn F n P Q) w :=
  drawP L Dn hm hs h
theorem tXP [Wide F] {done : List Nat} (i : Nat) (T : List Nat) (hQ : PQ Q) (hi : ops[i]? = some o) (hG : effG ops E o = some G) (hd : o.dst = some d) (hc : chk N d E G = true) (hm : (left ops done && SX.mayTakeT .any ops Dn (flags ops.size done) i T) = true)
    (hS : S w) (y : Yd P N D S E G o.op v) (h : Z N ((d, G, v) :: E) D (wpP F n P ops Q S Dn (i :: done)) w) : Z N E D (wpP F n P ops Q S Dn done) w := by
  classical
  simp only [Bool.and_eq_true] at hm
  intro a ha
  obtain ⟨h1, h2, h3⟩ := chk_spec hc
  have hw := wanted_of (ops := ops) (o := o) ha hG
  unfold wpP
  rw [fuel_eq (i := i) hm.1]
  have hmt := hm.2
  obtain ⟨q1, q2, q3, q4⟩ := SX.mayTakeT_spec hmt hi
  have hmt' := hmt
  simp only [SX.mayTakeT, Bool.and_eq_true] at hmt'
  obtain ⟨⟨⟨⟨⟨⟨⟨k1, k2⟩, k3⟩, -⟩, -⟩, -⟩, -⟩, k8⟩ := hmt'
  have hQ' : ∀ u : Value, ∀ c a w, Q (.panic c) (a.put o.dst u) w → Q (.panic c) a w := fun u c a w h => by rw [hd] at h; exact hQ c a d u w h
  by_cases hg : gholds a G
  · exact SX.wpAnyS_firstT (fun j => T.contains j) k3 (fun f => Wide.fn f) hi (Region.noSelect_spec k1) (SX.noDefer_spec k2) q1 q2 (hQ' v) _ _ a w q3 q4 (by simpa using k8) (.inl ⟨hw.2 hg, fun w hS => y.2 a ha hg o rfl w hS⟩) hS (by
      rw [hd]
      exact h _ (ha.put h1 h2 h3 (by rw [if_pos hg])))
  · exact SX.wpAnyS_firstT (fun j => T.contains j) k3 (fun f => Wide.fn f) hi (Region.noSelect_spec k1) (SX.noDefer_spec k2) q1 q2 (hQ' undef) _ _ a w q3 q4 (by simpa using k8) (.inr ⟨(by
      cases hb : Region.wanted o (yielded ops a.tmps) with
      | false => rfl
      | true => exact absurd (hw.1 hb) hg), rfl⟩) hS (by
      rw [hd]
      exact h _ (ha.put h1 h2 h3 (by rw [if_neg hg])))
theorem tnP [Wide F] {done : List Nat} (i : Nat) (hi : ops[i]? = some o) (hm : left ops done = true) (hr : Region.ready .any ops (flags ops.size done) = [i]) (hG : effG ops E o = some G) (ht : GTrue E G)
    (h : ZO F n P N E D o (fun a' w' => (Dn i = true → S w') ∧ wpP F n P ops Q S Dn (i :: done) a' w') Q w) : Z N E D (wpP F n P ops Q S Dn done) w := by
  intro a ha
  unfold wpP
  rw [fuel_eq (i := i) hm]
  exact SX.next i hi hr ((wanted_of (ops := ops) (o := o) ha hG).2 (ht.holds ha)) (h a ha)
theorem tkP {done : List Nat} {i : Nat} (hS : Dn i = true → S w) (h : Z N E D (wpP F n P ops Q S Dn (i :: done)) w) : Z N E D (fun a' w' => (Dn i = true → S w') ∧ wpP F n P ops Q S Dn (i :: done) a' w') w := fun a ha => ⟨hS, h a ha⟩
theorem tdP {done : List Nat} (hm : Nat.beq (ops.size - done.length) 0 = true) (hr : Region.ready .any ops (flags ops.size done) = []) (h : Z N E D (Q .normal) w) : Z N E D (wpP F n P ops Q S Dn done) w := by
  intro a ha
  unfold wpP
  rw [Nat.eq_of_beq_eq_true hm]
  exact ⟨hr, h a ha⟩
/-- an operation whose guards do not hold yields what you like -/
theorem not_holds {a : Act} (ha : Holds a N E D) {s : Nat} {b : Bool} (hs : look s E = some ([], .bool (!b))) (hm : (s, b) ∈ G) : ¬ gholds a G := fun hg => by
  have h1 := hg (s, b) hm
  have h2 := ha.get _ _ _ hs
  rw [if_pos gnil] at h2
  simp only at h1
  rw [h1] at h2
  cases b <;> simp at h2
theorem Yd.off {S : World → Prop} {op : Op} (s : Nat) (b : Bool) (hs : look s E = some ([], .bool (!b))) (hm : (s, b) ∈ G) (hd : ∀ c, op ≠ .defer c) : Yd P N D S E G op v := ⟨hd, fun a ha hg o ho w _ => absurd hg (not_holds ha hs hm)⟩
/-- number i alone may come, and its guards do not hold -/
theorem tnSP [Wide F] {done : List Nat} (s : Nat) (b : Bool) (i : Nat) (hi : ops[i]? = some o) (hm : left ops done = true) (hr : Region.ready .any ops (flags ops.size done) = [i]) (hG : effG ops E o = some G) (hs : look s E = some ([], .bool (!b))) (hmem : (s, b) ∈ G)
    (hd : o.dst = some d) (hc : chk N d E [] = true) (hS : Dn i = true → S w) (h : Z N ((d, [], undef) :: E) D (wpP F n P ops Q S Dn (i :: done)) w) : Z N E D (wpP F n P ops Q S Dn done) w := by
  intro a ha
  unfold wpP
  rw [fuel_eq (i := i) hm]
  refine ⟨fun h0 => (by rw [hr] at h0; cases h0), fun k hk => ?_⟩
  rw [hr] at hk
  obtain rfl : k = i := by simpa using hk
  obtain ⟨h1, h2, h3⟩ := chk_spec hc
  have hw : Region.wanted o (yielded ops a.tmps) = false := by
    cases hb : Region.wanted o (yielded ops a.tmps) with
    | false => rfl
    | true => exact absurd ((wanted_of (ops := ops) (o := o) ha hG).1 hb) (not_holds ha hs hmem)
  unfold Go.wpOpIn
  simp only [hi, hw, Bool.false_eq_true, if_false]
  refine ⟨fun f _ => Wide.fn f, hS, ?_⟩
  rw [hd]
  exact h _ (ha.put h1 h2 h3 (by simp))
theorem tnS [Wide F] {done : List Nat} (s : Nat) (b : Bool) (i : Nat) (hi : ops[i]? = some o) (hm : left ops done = true) (hr : Region.ready .any ops (flags ops.size done) = [i]) (hG : effG ops E o = some G) (hs : look s E = some ([], .bool (!b))) (hmem : (s, b) ∈ G)
    (hd : o.dst = some d) (hc : chk N d E [] = true) (hS : Dn i = true → S w) (h : Z N ((d, [], undef) :: E) D (wpD F n P ops Q S Dn (i :: done)) w) : Z N E D (wpD F n P ops Q S Dn done) w :=
  tnSP (Q := SX.NP Q) s b i hi hm hr hG hs hmem hd hc hS h
/-- each of is may come first -/
def FA (F : Fence) (n : Nat) (P : Program) (N : Nat) (E : Env) (D : List Deferred) (ops : Array Oper) (K : Nat → Act → World → Prop) (Q : Exit → Act → World → Prop) (w : World) : List Nat → Prop
  | [] => True
  | i :: is => (∃ o G, ops[i]? = some o ∧ effG ops E o = some G ∧ GTrue E G ∧ ZO F n P N E D o (K i) Q w) ∧ FA F n P N E D ops K Q w is
theorem FA.at {K : Nat → Act → World → Prop} : ∀ {is : List Nat}, FA F n P N E D ops K Q w is → ∀ i ∈ is, ∃ o G, ops[i]? = some o ∧ effG ops E o = some G ∧ GTrue E G ∧ ZO F n P N E D o (K i) Q w
  | [], _, i, hi => by cases hi
  | j :: is, h, i, hi => by
    rcases List.mem_cons.1 hi with rfl | hi
    · exact h.1
    · exact FA.at h.2 i hi
theorem forkP [Wide F] {done : List Nat} (is : List Nat) (hm : left ops done = true) (hr : Region.ready .any ops (flags ops.size done) = is) (hne : is.isEmpty = false)
    (h : FA F n P N E D ops (fun i a' w' => (Dn i = true → S w') ∧ wpP F n P ops Q S Dn (i :: done) a' w') Q w is) : Z N E D (wpP F n P ops Q S Dn done) w := by
  intro a ha
  unfold wpP
  rw [fuel_eq (i := 0) hm]
  refine ⟨fun h0 => (by rw [hr] at h0; rw [h0] at hne; cases hne), fun k hk => ?_⟩
  rw [hr] at hk
  obtain ⟨o, G, hi, hG, ht, hz⟩ := FA.at h k hk
  have hw := (wanted_of (ops := ops) (o := o) ha hG).2 (ht.holds ha)
  unfold Go.wpOpIn
  simp only [hi, hw, if_true]
  exact hz a ha
theorem forkD [Wide F] {done : List Nat} (is : List Nat) (hm : left ops done = true) (hr : Region.ready .any ops (flags ops.size done) = is) (hne : is.isEmpty = false)
    (h : FA F n P N E D ops (fun i a' w' => (Dn i = true → S w') ∧ wpD F n P ops Q S Dn (i :: done) a' w') (SX.NP Q) w is) : Z N E D (wpD F n P ops Q S Dn done) w :=
  forkP (Q := SX.NP Q) is hm hr hne h
end Z
namespace Z
variable {N : Nat} {E E' : Env} {D : List Deferred} {a : Act} {G : Guards} {F : Fence} {n : Nat} {P : Program} {o : Oper} {v : Value}
variable {K : Act → World → Prop} {Q : Exit → Act → World → Prop} {w w' w0 : World} {x : Operand} {d k : Nat} {f : FuncId}

/-- one panic, on its way -/
def pe (v : Value) : List PanicEntry := [{ v := v, recovered := false }]

/-- the text's own panic -/
theorem ZO.panic [Wide F] {T : TypeId} {u : Value} (ho : o.op = .panic x) (hx : ev E [] x = some (.iface T u)) (h : Z N E D (Q (.panic (pe (.iface T u)))) w) : ZO F n P N E D o K Q w := by
  intro a ha
  refine ⟨fun f _ => Wide.fn f, ?_⟩
  have h1 := ev0 ha hx
  rw [Oper.semAt_plain F _ o (by intro c e; rw [ho] at e; cases e)]
  have h2 : (execOp a.eval o).run P w = .halt (.panic (.iface T u)) w := by simp only [execOp, ho, h1]; rfl
  rw [h2]
  exact h a ha

theorem Yd.tassert {S : World → Prop} {T T2 : TypeId} {ok : Bool} {u : Value} (hx : ev E G x = some u) (hr : ∀ w, (Instr.typeAssert u T T2 ok).run P w = .ok v w) : Yd P N D S E G (.typeAssert x T T2 ok) v := by
  refine ⟨fun c e => (by cases e), fun a ha hg o ho w _ => ?_⟩
  have h1 := ev_eval ha hg hx
  simp [execOp, ho, h1, hr]

theorem Yd.assertYes {S : World → Prop} {T T2 : TypeId} {u : Value} (hx : ev E G x = some (.iface T2 u)) (hr : ∀ (v : Value) (w : World), (Instr.typeAssert (.iface T2 v) T T2 true).run P w = .ok (.tuple #[v, .bool true]) w) : Yd P N D S E G (.typeAssert x T T2 true) (.tuple #[u, .bool true]) :=
  Yd.tassert hx (hr u)

/-- a call that returns or panics -/
def Bo (Φ : Value → World → Prop) (Ψ : List PanicEntry → World → Prop) (e : Ending) (w' : World) : Prop := (∃ v, e = .returned v ∧ Φ v w') ∨ ∃ c, e = .panicked c ∧ Ψ c w'
theorem Bo.ret {f : FuncId} {args : Array Value} {Φ : Value → World → Prop} {Ψ : List PanicEntry → World → Prop} (h : Calls P f args w (SX.Ret Φ)) : Calls P f args w (Bo Φ Ψ) := h.mono fun e w' ⟨v, h1, h2⟩ => .inl ⟨v, h1, h2⟩
theorem Bo.pan {f : FuncId} {args : Array Value} {Φ : Value → World → Prop} {Ψ : List PanicEntry → World → Prop} (h : Calls P f args w (Pan Ψ)) : Calls P f args w (Bo Φ Ψ) := h.mono fun e w' ⟨v, h1, h2⟩ => .inr ⟨v, h1, h2⟩
theorem ZO.callB [Wider F] {asz : Array Operand} {ts : Array TypeId} {first cap args : Array Value} {vs : List Value} {Φ : Value → World → Prop} {Ψ : List PanicEntry → World → Prop}
    (ho : o.op = .call { callee := .value x, args := asz, argTypes := ts }) (hd : o.dst = some d) (hc : chk N d E [] = true) (hx : ev E [] x = some (.func (.func k) first cap)) (hv : evs E [] asz.toList = some vs) (hk : ∀ args w, (callFunc k args).run P w = .ok (.enter k args) w)
    (he : (first.toList ++ (vs ++ cap.toList)).toArray = args) (h : Calls P k args w (Bo Φ Ψ)) (hR : ∀ v w', Φ v w' → Z N ((d, [], v) :: E) D K w') (hP : ∀ c w', Ψ c w' → Z N E D (Q (.panic c)) w') : ZO F n P N E D o K Q w := by
  intro a ha
  obtain ⟨c1, c2, c3⟩ := chk_spec hc
  refine upon_call ha ho hx hv hk he h (fun e w' hr => ?_) (fun a w h => ⟨a, w, h⟩)
  rcases hr with ⟨v, rfl, hΦ⟩ | ⟨c, rfl, hΨ⟩
  · show K (a.put o.dst v) w'
    rw [hd]
    exact hR v w' hΦ _ (ha.put c1 c2 c3 (by rw [if_pos gnil]))
  · exact hP c w' hΨ _ ha
theorem ZO.callBn [Wider F] {asz : Array Operand} {ts : Array TypeId} {first cap args : Array Value} {vs : List Value} {Φ : Value → World → Prop} {Ψ : List PanicEntry → World → Prop}
    (ho : o.op = .call { callee := .value x, args := asz, argTypes := ts }) (hd : o.dst = none) (hx : ev E [] x = some (.func (.func k) first cap)) (hv : evs E [] asz.toList = some vs) (hk : ∀ args w, (callFunc k args).run P w = .ok (.enter k args) w)
    (he : (first.toList ++ (vs ++ cap.toList)).toArray = args) (h : Calls P k args w (Bo Φ Ψ)) (hR : ∀ v w', Φ v w' → Z N E D K w') (hP : ∀ c w', Ψ c w' → Z N E D (Q (.panic c)) w') : ZO F n P N E D o K Q w := by
  intro a ha
  refine upon_call ha ho hx hv hk he h (fun e w' hr => ?_) (fun a w h => ⟨a, w, h⟩)
  rcases hr with ⟨v, rfl, hΦ⟩ | ⟨c, rfl, hΨ⟩
  · show K (a.put o.dst v) w'
    rw [hd]
    exact hR v w' hΦ _ ha
  · exact hP c w' hΨ _ ha

/-! ## structs and slices put together, evaluated without simp -/
def putL : Nat → List Value → List Value → List Value
  | 0, [], l => l
  | 0, c :: cs, _ :: l => c :: putL 0 cs l
  | 0, _ :: _, [] => []
  | n + 1, cs, x :: l => x :: putL n cs l
  | _ + 1, _, [] => []
def cellsN : Nat → Value → List Value
  | 1, v => [v]
  | _, .agg cs => cs.toList
  | _, _ => []
def unrev : List Value → List Value → Option (List Value)
  | [], acc => some acc
  | x :: l, acc => unrev l (x :: acc)
def forced : List Value → List Value → Option (List Value)
  | [], acc => unrev acc []
  | x :: l, acc => forced l (x :: acc)
def bldO (pls : List (Nat × Nat)) : List Value → List (Nat × Value) → Option (List Value)
  | zs, [] => forced zs []
  | zs, (i, v) :: us => match pls[i]? with
    | some (off, size) => bldO pls (putL off (cellsN size v) zs) us
    | none => none
theorem Yd.buildL {S : World → Prop} {T : TypeId} {ps : Array (Nat × Operand)} {us : List (Nat × Value)} {cs : List Value} (pls : List (Nat × Nat)) (zs : List Value) (hx : evp E G ps.toList = some us) (hb : bldO pls zs us = some cs)
    (hr : ∀ w, (Instr.build T us.toArray).run P w = .ok (.agg cs.toArray) w) : Yd P N D S E G (.build T ps) (.agg cs.toArray) := Yd.build hx hr
theorem ZO.litL [Wide F] {T T' : TypeId} {M : List Nat} {L : List SX.Ent} {ps : Array (Nat × Operand)} {us : List (Nat × Value)} {len : Nat} {cs : List Value} (pls : List (Nat × Nat)) (zs : List Value) (ho : o.op = .buildSlice T len ps) (hd : o.dst = some d) (hc : chk N d E [] = true) (hx : evp E [] ps.toList = some us)
    (hb : bldO pls zs us = some cs) (hr : ∀ W : World, (Instr.buildSlice T len us.toArray).run P W = .ok (.slice (some ⟨W.heap.size, 0, none⟩) len len) (W.alloc (.cells cs.toArray T'))) (hs : SX.St w0 M w L)
    (h : ∀ g w', SX.St w0 M w' (SX.Ent.blk g T' cs.toArray :: L) → Z N ((d, [], .slice (some ⟨g, 0, none⟩) len len) :: E) D K w') : ZO F n P N E D o K Q w :=
  ZO.lit ho hd hc hx hr hs h
theorem all_one {l : List Value} (h : ∀ u ∈ l, u.oneCell' = true) : (l.toArray).all (·.oneCell') = true := by rw [List.all_toArray]; exact List.all_eq_true.2 h
/-- a part of a block, asz an aggregate -/
theorem cellsBo {M : List Nat} {L : List SX.Ent} {g T o : Nat} {cs : List Value} (part : List Value) (hm : SX.Ent.blk g T cs.toArray ∈ L) (hp : part <+: cs.drop o) : ∀ w, SX.Keep w0 M L w → ∀ j u, part[j]? = some u → w.cell? ⟨g, o + j, none⟩ = some u := fun w h j u hu => by
  refine cellB (i := o + j) hm ?_ w h
  rw [nth_eq]
  obtain ⟨t, ht⟩ := hp
  have h1 : (cs.drop o)[j]? = some u := by
    rw [← ht, List.getElem?_append_left (List.getElem?_eq_some_iff.1 hu).1]
    exact hu
  rwa [List.getElem?_drop] at h1
/-- an operation whose guard was not computed -/
theorem skippedU {ops : Array Oper} (ha : Holds a N E D) {s : Nat} {b : Bool} (hG : effG ops E o = some ((s, b) :: G)) (hs : look s E = some ([], undef)) : Region.wanted o (yielded ops a.tmps) = false := by
  cases hw : Region.wanted o (yielded ops a.tmps) with
  | false => rfl
  | true =>
    have h1 := (wanted_of (ops := ops) (o := o) ha hG).1 hw (s, b) List.mem_cons_self
    have h2 := ha.get _ _ _ hs
    rw [if_pos gnil] at h2
    simp only at h1
    rw [h1] at h2
    simp [undef] at h2
theorem lsU [Wide F] {ops : Array Oper} {rest : List Oper} {s : Nat} {b : Bool} (hG : effG ops E o = some ((s, b) :: G)) (hs : look s E = some ([], undef)) (hd : o.dst = some d) (hc : chk N d E [] = true)
    (h : Z N ((d, [], undef) :: E) D (wpListIn F n P ops Q rest) w) : Z N E D (wpListIn F n P ops Q (o :: rest)) w := by
  intro a ha
  have hw := skippedU ha hG hs
  obtain ⟨h1, h2, h3⟩ := chk_spec hc
  unfold wpListIn
  rw [if_neg (by rw [hw]; simp)]
  refine ⟨fun f _ => Wide.fn f, ?_⟩
  rw [hd]
  exact h _ (ha.put h1 h2 h3 (by simp))
theorem lsUn [Wide F] {ops : Array Oper} {rest : List Oper} {s : Nat} {b : Bool} (hG : effG ops E o = some ((s, b) :: G)) (hs : look s E = some ([], undef)) (hd : o.dst = none)
    (h : Z N E D (wpListIn F n P ops Q rest) w) : Z N E D (wpListIn F n P ops Q (o :: rest)) w := by
  intro a ha
  have hw := skippedU ha hG hs
  unfold wpListIn
  rw [if_neg (by rw [hw]; simp)]
  refine ⟨fun f _ => Wide.fn f, ?_⟩
  rw [hd]
  exact h a ha
/-- the slice of a whole array -/
theorem Yd.cutA {S : World → Prop} {T e : TypeId} {b off nn size : Nat} (hx : ev E G x = some (.pointer (some ⟨b, off, none⟩))) (ht : P.underlying T = some (.array nn e)) (hs : ∀ w, (sizeOf e).run P w = .ok size w) :
    Yd P N D S E G (.slice T x none none none) (.slice (some ⟨b, off, none⟩) nn nn) := by
  refine ⟨fun c e => (by cases e), fun a ha hg o ho w _ => ?_⟩
  have h1 := ev_eval ha hg hx
  have h0 : ∀ (hh : nn = 0 ∨ ¬ nn = 0), (if nn = 0 then (⟨b, off, none⟩ : Addr) else (⟨b, off, none⟩ : Addr).add 0) = ⟨b, off, none⟩ := fun hh => by
    split
    · rfl
    · rw [add_none, Nat.add_zero]
  simp [execOp, ho, h1, Instr.sliceAt, run_underlying ht, Instr.sureAddr, Instr.sliceBounds, hs, add_none]
/-- an element of an array that is no struct -/
theorem Yd.idx1 {S : World → Prop} {T e : TypeId} {y : Operand} {nn : Nat} {cs : Array Value} {k : IntKind} {i : Int} (hx : ev E G x = some (.agg cs)) (hy : ev E G y = some (.int k i)) (ht : P.underlying T = some (.array nn e)) (hs : ∀ w, (sizeOf e).run P w = .ok 1 w)
    (hag : ∀ w, (isAgg e).run P w = .ok false w) (hb : GH E G → 0 ≤ i ∧ i < nn ∧ cs[i.toNat]? = some v) : Yd P N D S E G (.index T x y) v :=
  Yd.index hx hy fun hG w => by
    obtain ⟨h0, h1, h2⟩ := hb hG
    simp [Instr.index, asIntOf, run_underlying ht, h0, h1, hs, part, hag, h2]
def fldO (off size : Nat) : Value → Option Value
  | .agg cs => match size with
    | 1 => nth cs.toList off
    | n => (forced ((cs.toList.drop off).take n) []).map fun l => .agg l.toArray
  | _ => none
theorem Yd.fieldL {S : World → Prop} {T : TypeId} {f : Nat} {u : Value} (off size : Nat) (hx : ev E G x = some u) (hb : fldO off size u = some v) (hr : ∀ w, (Instr.field T u f).run P w = .ok v w) : Yd P N D S E G (.field T x f) v := Yd.field hx hr

/-- what a call that was put off does, in a frame on its way out in mode u: it leaves it in mode u' -/
def _root_.Go.Proofs.Ythncbdoiilgnhaa.CallsDm (P : Program) (f : FuncId) (args : Array Value) (u u' : FrameMode) (w : World) (Φ : Value → World → Prop) : Prop := CallsDIn Fence.wide 0 P f args u w fun e v w' => v = u' ∧ SX.Ret Φ e w'
theorem _root_.Go.Proofs.Ythncbdoiilgnhaa.CallsDf.dm {args : Array Value} {Φ : Value → World → Prop} (h : CallsDf P f args w Φ) (u : FrameMode) : CallsDm P f args u u w Φ := h u
theorem _root_.Go.Proofs.Ythncbdoiilgnhaa.CallsDm.mono {args : Array Value} {u u' : FrameMode} {Φ Ψ : Value → World → Prop} (h : CallsDm P f args u u' w Φ) (hm : ∀ v w', Φ v w' → Ψ v w') : CallsDm P f args u u' w Ψ :=
  CallsDIn.mono h fun e x w' hh => ⟨hh.1, by obtain ⟨v, rfl, hv⟩ := hh.2; exact ⟨v, rfl, hm v w' hv⟩⟩

/-- a body that begins with recover -/
theorem enterRec {fn : Func} {y : Code} {id d0 d1 : Nat} {o0 o1 : Oper} {ts : Array TypeId} {args : Array Value} {Φ : Value → World → Prop} {u u' : FrameMode} {rv : Value}
    (hrec : ∀ (c0 : Frame) (cs : List Frame), c0.mode = u → (recoverD (c0 :: cs)).getD (.nilIface, c0 :: cs) = (rv, { c0 with mode := u' } :: cs))
    (hf : P.funcs[f]? = some fn) (hb : fn.body = some (.seq (.region id #[o0, o1] false) y)) (hn : fn.ntmps = N) (hN : Nat.ble args.size N = true) (he : envO 0 args.toList [] = some E)
    (h0 : o0.op = .call { callee := .builtin .recover, args := #[], argTypes := ts }) (g0 : o0.guard = none) (e0 : o0.dst = some d0) (h1 : o1.op = .assign (.tmp d0)) (g1 : o1.guard = none) (e1 : o1.dst = some d1)
    (hc : chk N d0 E [] = true) (hc1 : chk N d1 ((d0, [], rv) :: E) [] = true)
    (h : Z N ((d1, [], rv) :: (d0, [], rv) :: E) [] (y.wpIn Fence.wide 0 P (bodyPost P fn (SX.Ret Φ))) w) : CallsDm P f args u u' w Φ := by
  refine callsDIn_of_wpSIn hf hb trivial fun c0 cs hu => ?_
  rw [hn]
  have ha := holds_enter hN he
  generalize ({ tmps := args ++ Array.replicate (N - args.size) undef, defers := [] } : Act) = a at ha
  refine wpSIn_seq (wpSIn_region ?_)
  obtain ⟨k1, k2, k3⟩ := chk_spec hc
  obtain ⟨m1, m2, m3⟩ := chk_spec hc1
  have ha1 := ha.put (v := rv) k1 k2 k3 (by rw [if_pos gnil])
  have ha2 := ha1.put (v := rv) m1 m2 m3 (by rw [if_pos gnil])
  have hev : (a.put (some d0) rv).eval (.tmp d0) = rv := ev0 ha1 (by simp [ev, look, subG])
  have hr0 : (execOp a.eval o0).run P w = .ok .recover w := by simp [execOp, h0, resolve, invoke, builtin]
  have hr1 : (execOp (a.put (some d0) rv).eval o1).run P w = .ok (.value rv) w := by simp [execOp, h1, hev]
  have key : (y.wpSIn Fence.wide 0 P (bodyPostS P fn c0 cs fun e v w' => v = u' ∧ SX.Ret Φ e w')) ((a.put (some d0) rv).put (some d1) rv) ({ c0 with mode := u' } :: cs) w := by
    refine wpSIn_of_wpIn rfl (wpIn_mono (h _ ha2) fun e a' w' hq => ?_)
    cases e with
    | normal => obtain ⟨q1, v, q2, q3⟩ := hq; exact ⟨q1, u', rfl, v, q2, rfl, q3⟩
    | ret => obtain ⟨q1, v, q2, q3⟩ := hq; exact ⟨q1, u', rfl, v, q2, rfl, q3⟩
    | panic ch => obtain ⟨q1, q3⟩ := hq; exact ⟨q1, u', rfl, rfl, q3⟩
    | exit id => exact hq
    | goto l => exact hq
    | outgrown => exact ⟨u', rfl, hq⟩
  have hw0 : Region.wanted o0 (yielded #[o0, o1] a.tmps) = true := by simp [Region.wanted, g0]
  have hw1 : Region.wanted o1 (yielded #[o0, o1] (a.put (some d0) rv).tmps) = true := by simp [Region.wanted, g1]
  have hrc := hrec c0 cs hu
  have hl : List.range #[o0, o1].size = [0, 1] := rfl
  rw [hl]
  have step2 : wpOpsSIn Fence.wide 0 P #[o0, o1] (Exit.thenS (y.wpSIn Fence.wide 0 P (bodyPostS P fn c0 cs fun e v w' => v = u' ∧ SX.Ret Φ e w')) (bodyPostS P fn c0 cs fun e v w' => v = u' ∧ SX.Ret Φ e w')) [1] (a.put (some d0) rv) ({ c0 with mode := u' } :: cs) w := by
    have hi : (#[o0, o1] : Array Oper)[1]? = some o1 := rfl
    simp only [wpOpsSIn, hi, hw1, if_true, hr1, e1]
    exact ⟨fun f _ => trivial, key⟩
  have hi0 : (#[o0, o1] : Array Oper)[0]? = some o0 := rfl
  unfold wpOpsSIn
  simp only [hi0, hw0, if_true, hr0, e0]
  refine ⟨fun f _ => trivial, ?_⟩
  cases hd : recoverD (c0 :: cs) with
  | none =>
    rw [hd] at hrc
    simp only [Option.getD_none, Prod.mk.injEq] at hrc
    obtain ⟨r1, r2⟩ := hrc
    simp only
    rw [r1, r2]
    exact step2
  | some p =>
    obtain ⟨v1, cs1⟩ := p
    rw [hd] at hrc
    simp only [Option.getD_some, Prod.mk.injEq] at hrc
    obtain ⟨rfl, rfl⟩ := hrc
    exact step2
theorem rec_ret (c0 : Frame) (cs : List Frame) (h : c0.mode = .returning) : (recoverD (c0 :: cs)).getD (.nilIface, c0 :: cs) = (.nilIface, { c0 with mode := .returning } :: cs) := by
  have e : ({ c0 with mode := .returning } : Frame) = c0 := by rw [← h]
  simp [recoverD, h, e]
theorem rec_pan (v : Value) (c0 : Frame) (cs : List Frame) (h : c0.mode = .panicking (pe v)) : (recoverD (c0 :: cs)).getD (.nilIface, c0 :: cs) = (v, { c0 with mode := .panicking [{ v := v, recovered := true }] } :: cs) := by
  simp [recoverD, h, pe]

/-! ## the ends of a function that has put off one call -/
/-- it returns -/
theorem outDr {fn : Func} {R : Ending → World → Prop} {cap dargs : Array Value} {Φ : Value → World → Prop} (hk : ∀ args w, (callFunc k args).run P w = .ok (.enter k args) w)
    (hc : CallsDm P k (dargs ++ cap) .returning .returning w Φ) (hR : ∀ v w', Φ v w' → ∃ vs, RV P w' E fn.results.toList vs ∧ R (.returned (pack vs)) w') : Z N E [{ target := .fn (.func k) cap, args := dargs }] (bodyPostDIn Fence.wide 0 P fn R .ret) w := fun a ha => by
  show LeavesIn Fence.wide 0 P fn a.tmps R a.defers .returning w
  rw [ha.defers]
  refine leavesIn_cons (by simp) (by intro h; cases h) (hk _ _) (fun g _ => trivial) (CallsDIn.mono hc fun e u' w' h => ?_)
  obtain ⟨rfl, v, rfl, hv⟩ := h
  obtain ⟨vs, h1, h2⟩ := hR v w' hv
  exact ⟨_, results_run ⟨ha.size, ha.get, ha.defers⟩ h1 rfl, h2⟩
theorem outDrn {fn : Func} {R : Ending → World → Prop} {cap dargs : Array Value} {Φ : Value → World → Prop} (hk : ∀ args w, (callFunc k args).run P w = .ok (.enter k args) w)
    (hc : CallsDm P k (dargs ++ cap) .returning .returning w Φ) (hR : ∀ v w', Φ v w' → ∃ vs, RV P w' E fn.results.toList vs ∧ R (.returned (pack vs)) w') : Z N E [{ target := .fn (.func k) cap, args := dargs }] (bodyPostDIn Fence.wide 0 P fn R .normal) w := outDr hk hc hR
/-- a panic goes through it, and the call recovers -/
theorem outDp {fn : Func} {R : Ending → World → Prop} {cap dargs : Array Value} {Φ : Value → World → Prop} {u : Value} (hk : ∀ args w, (callFunc k args).run P w = .ok (.enter k args) w)
    (hc : CallsDm P k (dargs ++ cap) (.panicking (pe u)) (.panicking [{ v := u, recovered := true }]) w Φ) (hR : ∀ v w', Φ v w' → ∃ vs, RV P w' E fn.results.toList vs ∧ R (.returned (pack vs)) w') :
    Z N E [{ target := .fn (.func k) cap, args := dargs }] (bodyPostDIn Fence.wide 0 P fn R (.panic (pe u))) w := fun a ha => by
  show LeavesIn Fence.wide 0 P fn a.tmps R a.defers (.panicking (pe u)) w
  rw [ha.defers]
  refine leavesIn_cons (by simp) (by intro h; cases h) (hk _ _) (fun g _ => trivial) (CallsDIn.mono hc fun e u' w' h => ?_)
  obtain ⟨rfl, v, rfl, hv⟩ := h
  obtain ⟨vs, h1, h2⟩ := hR v w' hv
  exact ⟨_, results_run ⟨ha.size, ha.get, ha.defers⟩ h1 rfl, h2⟩
/-- .. and no call was put off yet -/
theorem outD0p {fn : Func} {R : Ending → World → Prop} {c : List PanicEntry} (hR : R (.panicked c) w) : Z N E [] (bodyPostDIn Fence.wide 0 P fn R (.panic c)) w := fun a ha => by
  show LeavesIn Fence.wide 0 P fn a.tmps R a.defers (.panicking c) w
  rw [ha.defers]
  exact hR
end Z
end Go.Proofs.Ythncbdoiilgnhaa

/- Structs and arrays compared. -/
namespace Go.Proofs.Ythncbdoiilgnhaa
open Go.RowKit
set_option linter.unusedVariables false
set_option linter.unusedSimpArgs false
namespace Z
/-- the shape of a type whose values are compared cell by cell -/
inductive Sh where
  | b | i | fn
  | st (l : Sh)
  | fc (off size : Nat) (h t : Sh)
  | ar (n size : Nat) (e : Sh)
def Sh.isA : Sh → Bool
  | .st _ => true
  | .ar _ _ _ => true
  | _ => false
def andO : Option Bool → Option Bool → Option Bool
  | some a, some b => some (a && b)
  | _, _ => none
/-- a part of a struct or array -/
def prt (ag : Bool) (off size : Nat) : Value → Option Value
  | .agg cs => bif ag then some (.agg ((cs.toList.drop off).take size).toArray) else nth cs.toList off
  | _ => none
def eqAr (f : Value → Value → Option Bool) (ag : Bool) (size : Nat) (x y : Value) : Nat → Nat → Option Bool
  | _, 0 => some true
  | i, n + 1 => match prt ag (i * size) size x, prt ag (i * size) size y with
    | some u, some v => andO (f u v) (eqAr f ag size x y (i + 1) n)
    | _, _ => none
def eqS : Sh → Value → Value → Option Bool
  | .b, .bool a, .bool b => some (a == b)
  | .i, .int k a, .int k' b => bif sameK k k' then some (a == b) else none
  | .st l, .agg xs, .agg ys => eqS l (.agg xs) (.agg ys)
  | .fn, _, _ => some true
  | .fc off size h t, x, y => match prt h.isA off size x, prt h.isA off size y with
    | some u, some v => andO (eqS h u v) (eqS t x y)
    | _, _ => none
  | .ar n size e, .agg xs, .agg ys => eqAr (fun u v => eqS e u v) e.isA size (.agg xs) (.agg ys) 0 n
  | _, _, _ => none
def szB (P : Program) (T size : Nat) : Bool := match P.info? T with
  | some i => Nat.beq i.size size
  | none => false
def isVal : Sh → Bool
  | .fn => false
  | .fc _ _ _ _ => false
  | _ => true
def okS (P : Program) : Sh → TypeId → List Field → Bool
  | .b, T, _ => match P.underlying T with
    | some .bool => true
    | _ => false
  | .i, T, _ => match P.underlying T with
    | some (.int _) => true
    | _ => false
  | .st l, T, _ => match P.underlying T with
    | some (.struct fs) => !P.stoodInHeld T && (okS P l 0 fs.toList && !isVal l)
    | _ => false
  | .fn, _, [] => true
  | .fc off size h t, _, f :: fs => f.name != "_" && (Nat.beq f.offset off && (okS P h f.type [] && (szB P f.type size && (okS P t 0 fs && (isVal h && !isVal t)))))
  | .ar n size e, T, _ => match P.underlying T with
    | some (.array m el) => Nat.beq n m && (okS P e el [] && (szB P el size && isVal e))
    | _ => false
  | _, _, _ => false
def dp : Sh → Nat
  | .b => 1
  | .i => 1
  | .fn => 0
  | .st l => dp l + 1
  | .fc _ _ h t => max (dp h) (dp t)
  | .ar _ _ e => dp e + 1
variable {P : Program} {w : World}
theorem szB_run {T size : Nat} (h : szB P T size = true) : (sizeOf T).run P w = .ok size w := by
  unfold szB at h
  split at h
  · rename_i i hi
    simp [Go.sizeOf, typeInfo, hi, Nat.eq_of_beq_eq_true h]
  · cases h
theorem isAgg_run {sh : Sh} {T : TypeId} (hv : isVal sh = true) (h : okS P sh T [] = true) : (isAgg T).run P w = .ok sh.isA w := by
  cases sh <;> simp only [okS] at h <;> try (simp [isVal] at hv; done)
  all_goals
    (split at h
     · rename_i hu; simp [isAgg, run_underlying hu, Sh.isA]
     · cases h)
theorem part_run {sh : Sh} {T : TypeId} {off size : Nat} {cs : Array Value} {u : Value} (hv : isVal sh = true) (h : okS P sh T [] = true) (hs : szB P T size = true) (hp : prt sh.isA off size (.agg cs) = some u) : (part T cs off).run P w = .ok u w := by
  unfold part
  simp only [Sem.run_bind, isAgg_run hv h, Result.andThen_ok]
  unfold prt at hp
  cases hA : sh.isA with
  | true =>
    rw [hA] at hp
    simp only [cond_true, Option.some.injEq] at hp
    subst hp
    simp only [if_true, Sem.run_bind, szB_run hs, Result.andThen_ok, Sem.run_pure]
    congr 2
    apply Array.ext'
    simp [List.take_drop, Nat.add_comm]
  | false =>
    rw [hA] at hp
    simp only [cond_false, nth_eq] at hp
    have : cs[off]? = some u := by simpa using hp
    simp [this]

def loopB : Option Bool × Unit → Bool
  | (some r, _) => r
  | (none, _) => true
/-- the loop over the fields -/
def FieldsRun (P : Program) (d : Nat) (xs ys : Array Value) (fs : List Field) (r : Bool) : Prop := ∀ w, ∃ z, (forIn (m := Sem) fs ((none, ()) : Option Bool × Unit) fun f __s =>
      if f.name ≠ "_" then do
        let __do_lift ← part f.type xs f.offset
        let __do_lift_1 ← part f.type ys f.offset
        let __do_lift ← Op.equalIn d f.type __do_lift __do_lift_1
        if (!__do_lift) = true then pure (ForInStep.done (some false, ())) else pure (ForInStep.yield (none, ()))
      else pure (ForInStep.yield (none, ()))).run P w = .ok z w ∧ loopB z = r
def ElemsRun (P : Program) (d : Nat) (e : TypeId) (size : Nat) (xs ys : Array Value) (is : List Nat) (r : Bool) : Prop := ∀ w, ∃ z, (forIn (m := Sem) is ((none, ()) : Option Bool × Unit) fun i __s => do
        let __do_lift ← part e xs (i * size)
        let __do_lift_1 ← part e ys (i * size)
        let __do_lift ← Op.equalIn d e __do_lift __do_lift_1
        if (!__do_lift) = true then pure (ForInStep.done (some false, ())) else pure (ForInStep.yield (none, ()))).run P w = .ok z w ∧ loopB z = r
theorem andO_some {a b : Option Bool} {r : Bool} (h : andO a b = some r) : ∃ x y, a = some x ∧ b = some y ∧ r = (x && y) := by
  cases a <;> cases b <;> simp [andO] at h
  exact ⟨_, _, rfl, rfl, h.symm⟩
theorem prt_agg {ag : Bool} {off size : Nat} {x u : Value} (h : prt ag off size x = some u) : ∃ cs, x = .agg cs := by
  cases x <;> simp [prt] at h
  exact ⟨_, rfl⟩
theorem elems_run {xs ys : Array Value} {d : Nat} {e : Sh} {el : TypeId} {size : Nat} (hv : isVal e = true) (hok : okS P e el [] = true) (hs : szB P el size = true)
    (H : ∀ x y r, eqS e x y = some r → ∀ w, (Op.equalIn d el x y).run P w = .ok r w) : ∀ (n i : Nat) (r : Bool), eqAr (fun u v => eqS e u v) e.isA size (.agg xs) (.agg ys) i n = some r → ElemsRun P d el size xs ys (List.range' i n) r := by
  intro n
  induction n with
  | zero =>
    intro i r he w
    simp [eqAr] at he
    subst he
    exact ⟨(none, ()), by simp, rfl⟩
  | succ n ih =>
    intro i r he w
    simp only [eqAr] at he
    cases hu : prt e.isA (i * size) size (.agg xs) with
    | none => rw [hu] at he; simp at he
    | some u =>
      cases hv2 : prt e.isA (i * size) size (.agg ys) with
      | none => rw [hu, hv2] at he; simp at he
      | some v =>
        rw [hu, hv2] at he
        simp only at he
        obtain ⟨a, b, ha, hb, rfl⟩ := andO_some he
        obtain ⟨z, hz, hzb⟩ := ih (i + 1) b hb w
        have p1 := part_run (w := w) hv hok hs hu
        have p2 := part_run (w := w) hv hok hs hv2
        have p3 := H u v a ha w
        rw [List.range'_succ]
        cases a with
        | true => exact ⟨z, by
            rw [List.forIn_cons]
            simp only [Sem.run_bind, p1, p2, p3, Result.andThen_ok, Bool.not_true, Bool.false_eq_true, if_false, Sem.run_pure]
            exact hz, by simp [hzb]⟩
        | false => exact ⟨(some false, ()), by simp [p1, p2, p3], rfl⟩
theorem eqS_run (sh : Sh) : (∀ T x y r d, isVal sh = true → dp sh ≤ d → okS P sh T [] = true → eqS sh x y = some r → ∀ w, (Op.equalIn d T x y).run P w = .ok r w) ∧
    (isVal sh = false → ∀ fs xs ys r d, dp sh ≤ d → okS P sh 0 fs = true → eqS sh (.agg xs) (.agg ys) = some r → FieldsRun P d xs ys fs r) := by
  induction sh with
  | b =>
    refine ⟨fun T x y r d _ hd hok he w => ?_, fun h => (by cases h)⟩
    obtain ⟨d, rfl⟩ : ∃ k, d = k + 1 := ⟨d - 1, by simp [dp] at hd; omega⟩
    simp only [okS] at hok
    split at hok
    · rename_i hu
      cases x <;> cases y <;> simp [eqS] at he
      subst he
      simp [Op.equalIn, run_underlying hu]
    · cases hok
  | i =>
    refine ⟨fun T x y r d _ hd hok he w => ?_, fun h => (by cases h)⟩
    obtain ⟨d, rfl⟩ : ∃ k, d = k + 1 := ⟨d - 1, by simp [dp] at hd; omega⟩
    simp only [okS] at hok
    split at hok
    · rename_i hu
      cases x <;> cases y <;> simp only [eqS] at he <;> first | (cases he; done) | skip
      rename_i k a k' b
      cases hk : sameK k k' with
      | false => rw [hk] at he; cases he
      | true =>
        rw [hk] at he
        simp only [cond_true, Option.some.injEq] at he
        subst he
        obtain rfl := sameK_eq hk
        simp [Op.equalIn, run_underlying hu]
    · cases hok
  | fn =>
    refine ⟨fun T x y r d h => (by cases h), fun _ fs xs ys r d _ hok he w => ?_⟩
    cases fs with
    | nil =>
      simp [eqS] at he
      subst he
      exact ⟨(none, ()), by simp, rfl⟩
    | cons f fs => simp [okS] at hok
  | st l ih =>
    refine ⟨fun T x y r d _ hd hok he w => ?_, fun h => (by cases h)⟩
    obtain ⟨d, rfl⟩ : ∃ k, d = k + 1 := ⟨d - 1, by simp [dp] at hd; omega⟩
    simp only [okS] at hok
    split at hok
    · rename_i fs hu
      simp only [Bool.and_eq_true, Bool.not_eq_true'] at hok
      obtain ⟨hst, hok, hl⟩ := hok
      cases x <;> cases y <;> simp only [eqS] at he <;> first | (cases he; done) | skip
      rename_i xs ys
      obtain ⟨z, hz, hzb⟩ := ih.2 hl fs.toList xs ys r d (by simp [dp] at hd; omega) hok he w
      simp only [Op.equalIn, Sem.run_bind, run_underlying hu, Result.andThen_ok, run_program, hst, Bool.false_eq_true, if_false]
      rw [← Array.forIn_toList, hz]
      simp only [Result.andThen_ok]
      obtain ⟨o, u⟩ := z
      cases o <;> simp [loopB] at hzb ⊢ <;> exact hzb
    · cases hok
  | fc off size h t ihh iht =>
    refine ⟨fun T x y r d h => (by cases h), fun _ fs xs ys r d hd hok he w => ?_⟩
    cases fs with
    | nil => simp [okS] at hok
    | cons f fs =>
      simp only [okS, Bool.and_eq_true, bne_iff_ne, ne_eq, Bool.not_eq_true'] at hok
      obtain ⟨h1, h2, h3, h4, h5, h6, h7⟩ := hok
      have hoff := Nat.eq_of_beq_eq_true h2
      simp only [eqS] at he
      cases hu : prt h.isA off size (.agg xs) with
      | none => rw [hu] at he; simp at he
      | some u =>
        cases hv2 : prt h.isA off size (.agg ys) with
        | none => rw [hu, hv2] at he; simp at he
        | some v =>
          rw [hu, hv2] at he
          simp only at he
          obtain ⟨a, b, ha, hb, rfl⟩ := andO_some he
          simp only [dp] at hd
          obtain ⟨z, hz, hzb⟩ := iht.2 h7 fs xs ys b d (by omega) h5 hb w
          rw [← hoff] at hu hv2
          have p1 := part_run (w := w) h6 h3 h4 hu
          have p2 := part_run (w := w) h6 h3 h4 hv2
          have p3 := ihh.1 f.type u v a d h6 (by omega) h3 ha w
          cases a with
          | true => exact ⟨z, by
              rw [List.forIn_cons, if_pos h1]
              simp only [Sem.run_bind, p1, p2, p3, Result.andThen_ok, Bool.not_true, Bool.false_eq_true, if_false, Sem.run_pure]
              exact hz, by simp [hzb]⟩
          | false => exact ⟨(some false, ()), by simp [h1, p1, p2, p3], rfl⟩
  | ar n size e ih =>
    refine ⟨fun T x y r d _ hd hok he w => ?_, fun h => (by cases h)⟩
    obtain ⟨d, rfl⟩ : ∃ k, d = k + 1 := ⟨d - 1, by simp [dp] at hd; omega⟩
    simp only [okS] at hok
    split at hok
    · rename_i m el hu
      simp only [Bool.and_eq_true] at hok
      obtain ⟨hn, hok, hsz, hv⟩ := hok
      have hn := Nat.eq_of_beq_eq_true hn
      subst hn
      cases x <;> cases y <;> simp only [eqS] at he <;> first | (cases he; done) | skip
      rename_i xs ys
      obtain ⟨z, hz, hzb⟩ := elems_run (xs := xs) (ys := ys) (d := d) hv hok hsz (fun x y r he w => ih.1 el x y r d hv (by simp [dp] at hd; omega) hok he w) n 0 r he w
      simp only [Op.equalIn, Sem.run_bind, run_underlying hu, Result.andThen_ok, szB_run hsz]
      rw [Std.Legacy.Range.forIn_eq_forIn_range']
      simp only [Std.Legacy.Range.size, Nat.sub_zero, Nat.add_sub_cancel, Nat.div_one]
      rw [hz]
      simp only [Result.andThen_ok]
      obtain ⟨o, u⟩ := z
      cases o <;> simp [loopB] at hzb ⊢ <;> exact hzb
    · cases hok

variable {N : Nat} {E : Env} {D : List Deferred} {G : Guards} {S : World → Prop} {x y : Operand} {T T' : TypeId} {u v : Value}
theorem equal_run (sh : Sh) {r : Bool} (hd : Nat.ble (dp sh) 100 = true) (hv : isVal sh = true) (hok : okS P sh T [] = true) (he : eqS sh u v = some r) : (Op.equal T u v).run P w = .ok r w :=
  (eqS_run sh).1 T u v r Op.maxDepth hv (Nat.le_trans (Nat.le_of_ble_eq_true hd) (by decide)) hok he w
theorem eqGuard_agg {op : BinOp} {xs ys : Array Value} (hg : P.eqGuardType P.depth T = false) : (eqGuard op T x y (.agg xs) (.agg ys)).run P w = .ok () w := by
  unfold eqGuard
  cases op <;> simp [run_program, hg]
theorem Yd.eqA (sh : Sh) {xs ys : Array Value} {r : Bool} (hx : ev E G x = some (.agg xs)) (hy : ev E G y = some (.agg ys)) (hd : Nat.ble (dp sh) 100 = true) (hv : isVal sh = true) (hok : okS P sh T [] = true) (hg : P.eqGuardType P.depth T = false) (he : eqS sh (.agg xs) (.agg ys) = some r) : Yd P N D S E G (.binOp .eql T x y T') (.bool r) :=
  Yd.bin hx hy fun _ w => by
    rw [Sem.run_bind, eqGuard_agg hg]
    simp [binOp, equal_run sh hd hv hok he]
theorem Yd.neA (sh : Sh) {xs ys : Array Value} {r : Bool} (hx : ev E G x = some (.agg xs)) (hy : ev E G y = some (.agg ys)) (hd : Nat.ble (dp sh) 100 = true) (hv : isVal sh = true) (hok : okS P sh T [] = true) (hg : P.eqGuardType P.depth T = false) (he : eqS sh (.agg xs) (.agg ys) = some r) : Yd P N D S E G (.binOp .neq T x y T') (.bool (!r)) :=
  Yd.bin hx hy fun _ w => by
    rw [Sem.run_bind, eqGuard_agg hg]
    simp [binOp, equal_run sh hd hv hok he]
/-- a function value is not nil -/
theorem Yd.fnNil {f : Fn} {a b : Array Value} {ps rs : Array TypeId} {vd : Bool} (hx : ev E G x = some (.func f a b)) (hy : ev E G y = some .nilFunc) (ht : P.underlying T = some (.func ps rs vd)) : Yd P N D S E G (.binOp .eql T x y T') (.bool false) :=
  Yd.bin hx hy fun _ w => by
    have : eqGuard .eql T x y (.func f a b) .nilFunc = Pure.pure () := rfl
    rw [this]
    have h : ∀ q, (Op.equalIn (q + 1) T (.func f a b) .nilFunc).run P w = .ok false w := fun q => by simp [Op.equalIn, run_underlying ht]
    simp only [binOp]
    simp [Op.equal, Op.maxDepth, h 9999]

/-! ## a struct stored in a part of a block or of a row -/
theorem putL_cons : ∀ (n : Nat) (v : Value) (vs l : List Value), n < l.length → putL n (v :: vs) l = putL (n + 1) vs (l.set n v)
  | 0, v, vs, [], h => by simp at h
  | 0, v, vs, x :: l, _ => by simp [putL]
  | n + 1, v, vs, [], h => by simp at h
  | n + 1, v, vs, x :: l, h => by
    simp only [putL, List.set_cons_succ]
    rw [putL_cons n v vs l (by simpa using h)]
theorem putL_nil : ∀ (n : Nat) (l : List Value), putL n [] l = l
  | 0, [] => rfl
  | 0, _ :: _ => rfl
  | _ + 1, [] => rfl
  | n + 1, x :: l => by simp [putL, putL_nil n l]
theorem putL_length : ∀ (n : Nat) (vs l : List Value), n + vs.length ≤ l.length → (putL n vs l).length = l.length
  | n, [], l, _ => by rw [putL_nil]
  | n, v :: vs, l, h => by
    simp only [List.length_cons] at h
    rw [putL_cons n v vs l (by omega), putL_length (n + 1) vs _ (by simp; omega), List.length_set]
/-- what is put in place by place -/
theorem putL_eq : ∀ (n : Nat) (vs l : List Value), n + vs.length ≤ l.length → putL n vs l = l.take n ++ vs ++ l.drop (n + vs.length)
  | n, [], l, _ => by rw [putL_nil]; simp
  | n, v :: vs, l, h => by
    simp only [List.length_cons] at h
    rw [putL_cons n v vs l (by omega), putL_eq (n + 1) vs _ (by simp; omega)]
    rw [List.take_set, List.drop_set_of_lt (by omega), List.take_add_one, List.getElem?_eq_getElem (by omega)]
    rw [List.set_append_right _ _ (by simp; omega)]
    simp only [List.length_take, Nat.min_eq_left (show n ≤ l.length by omega), Nat.sub_self, Option.toList, List.set_cons_zero, List.length_cons]
    simp [Nat.add_assoc, Nat.add_comm 1]
variable {M : List Nat} {L : List SX.Ent} {w0 : World}
theorem storeCells_blk {g T' o j : Nat} : ∀ (vs : List Value) (i : Nat) (w : World) (L : List SX.Ent) (cs : List Value), SX.St w0 M w L → L[j]? = some (SX.Ent.blk g T' cs.toArray) → (∀ u ∈ vs, u.oneCell' = true) → o + i + vs.length ≤ cs.length →
    ∃ w', (storeCells ⟨g, o, none⟩ vs i).run P w = .ok () w' ∧ SX.St w0 M w' (L.set j (SX.Ent.blk g T' (putL (o + i) vs cs).toArray))
  | [], i, w, L, cs, hs, hj, _, _ => ⟨w, by simp [storeCells], by
      rw [putL_nil]
      have hjl := (List.getElem?_eq_some_iff.1 hj)
      obtain ⟨h1, h2⟩ := hjl
      rw [← h2, List.set_getElem_self]
      exact hs⟩
  | v :: vs, i, w, L, cs, hs, hj, h1, hl => by
    simp only [List.length_cons] at hl
    have hjl := (List.getElem?_eq_some_iff.1 hj).1
    have hc : w.cell? ⟨g, o + i, none⟩ = some (cs[o + i]'(by omega)) := (SX.cell_blk (hs.blk hj) (o + i)).trans (by simp)
    have hf : w.frozen? ⟨g, o + i, none⟩ = false := SX.frozen_blk (hs.blk hj) (o + i)
    have hs2 := hs.set (i := o + i) hj v
    rw [List.setIfInBounds_toArray] at hs2
    obtain ⟨w', hrun, hs3⟩ := storeCells_blk (g := g) (T' := T') (o := o) (j := j) vs (i + 1) _ _ (cs.set (o + i) v) hs2 (by simp [hjl]) (fun u hu => h1 u (by simp [hu])) (by simp; omega)
    refine ⟨w', ?_, ?_⟩
    · simp only [storeCells, add_none, Sem.run_bind, run_store P w ⟨g, o + i, none⟩ v _ (h1 v (by simp)), hc, hf]
      simpa using hrun
    · rw [List.set_set] at hs3
      rw [putL_cons _ _ _ _ (by omega)]
      exact hs3
theorem storeCells_row {g T' o j kk cc size m : Nat} : ∀ (vs : List Value) (i : Nat) (w : World) (L : List SX.Ent) (cs : List Value), SX.St w0 M w L → L[j]? = some (SX.Ent.row (.slice (some ⟨g, 0, none⟩) kk cc) T' size m cs) → (∀ u ∈ vs, u.oneCell' = true) → o + i + vs.length ≤ cs.length →
    ∃ w', (storeCells ⟨g, o, none⟩ vs i).run P w = .ok () w' ∧ SX.St w0 M w' (L.set j (SX.Ent.row (.slice (some ⟨g, 0, none⟩) kk cc) T' size m (putL (o + i) vs cs)))
  | [], i, w, L, cs, hs, hj, _, _ => ⟨w, by simp [storeCells], by
      rw [putL_nil]
      have hjl := (List.getElem?_eq_some_iff.1 hj)
      obtain ⟨h1, h2⟩ := hjl
      rw [← h2, List.set_getElem_self]
      exact hs⟩
  | v :: vs, i, w, L, cs, hs, hj, h1, hl => by
    simp only [List.length_cons] at hl
    have hjl := (List.getElem?_eq_some_iff.1 hj).1
    have hc : w.cell? ⟨g, o + i, none⟩ = some (cs[o + i]'(by omega)) := SX.row_cell hs hj (by simp)
    have hf : w.frozen? ⟨g, o + i, none⟩ = false := SX.row_frozen hs hj
    have hs2 := SX.row_set (i := o + i) hs hj v
    obtain ⟨w', hrun, hs3⟩ := storeCells_row (g := g) (T' := T') (o := o) (j := j) (kk := kk) (cc := cc) (size := size) (m := m) vs (i + 1) _ _ (cs.set (o + i) v) hs2 (by simp [hjl]) (fun u hu => h1 u (by simp [hu])) (by simp; omega)
    refine ⟨w', ?_, ?_⟩
    · simp only [storeCells, add_none, Sem.run_bind, run_store P w ⟨g, o + i, none⟩ v _ (h1 v (by simp)), hc, hf]
      simpa using hrun
    · rw [List.set_set] at hs3
      rw [putL_cons _ _ _ _ (by omega)]
      exact hs3
theorem storeVar_run {a : Addr} {vs : List Value} {w' : World} (hsz : (P.info? T).map (·.size) = some vs.length) (h : (storeCells a vs 0).run P w = .ok () w') : (storeVar T a (.agg vs.toArray)).run P w = .ok () w' := by
  cases hq : P.info? T with
  | none => simp [hq] at hsz
  | some i =>
    have hi : i.size = vs.length := by simpa [hq] using hsz
    simp [storeVar, Go.sizeOf, typeInfo, hq, hi, Value.cells, h]
variable {F : Fence} {n : Nat} {o : Oper} {K : Act → World → Prop} {Q : Exit → Act → World → Prop}
theorem ZO.storeP [Wide F] {g off j : Nat} {cs vs : List Value} (ho : o.op = .store T x y) (hd : o.dst = none) (hs : SX.St w0 M w L)
    (hx : ev E [] x = some (.pointer (some ⟨g, off, none⟩))) (hy : ev E [] y = some (.agg vs.toArray)) (hsz : (P.info? T).map (·.size) = some vs.length) (h1 : (vs.toArray).all (·.oneCell') = true) (hj : L[j]? = some (SX.Ent.blk g T' cs.toArray)) (hi : off + vs.length ≤ cs.length)
    (h : ∀ w', SX.St w0 M w' (L.set j (SX.Ent.blk g T' (putL off vs cs).toArray)) → Z N E D K w') : ZO F n P N E D o K Q w := by
  obtain ⟨w', hrun, hs'⟩ := storeCells_blk (P := P) (o := off) vs 0 w L cs hs hj (fun u hu => by rw [List.all_toArray] at h1; exact List.all_eq_true.1 h1 u hu) (by omega)
  exact ZO.unit (by intro c e; rw [ho] at e; cases e) hd (fun a ha => by simp [execOp, ho, ev0 ha hx, ev0 ha hy, Instr.storeAt, Instr.sureAddr, storeVar_run hsz hrun]) (h w' hs')
theorem ZO.storePR [Wide F] {g off j kk cc size m : Nat} {cs vs : List Value} (ho : o.op = .store T x y) (hd : o.dst = none) (hs : SX.St w0 M w L)
    (hx : ev E [] x = some (.pointer (some ⟨g, off, none⟩))) (hy : ev E [] y = some (.agg vs.toArray)) (hsz : (P.info? T).map (·.size) = some vs.length) (h1 : (vs.toArray).all (·.oneCell') = true) (hj : L[j]? = some (SX.Ent.row (.slice (some ⟨g, 0, none⟩) kk cc) T' size m cs)) (hi : off + vs.length ≤ cs.length)
    (h : ∀ w', SX.St w0 M w' (L.set j (SX.Ent.row (.slice (some ⟨g, 0, none⟩) kk cc) T' size m (putL off vs cs))) → Z N E D K w') : ZO F n P N E D o K Q w := by
  obtain ⟨w', hrun, hs'⟩ := storeCells_row (P := P) (o := off) vs 0 w L cs hs hj (fun u hu => by rw [List.all_toArray] at h1; exact List.all_eq_true.1 h1 u hu) (by omega)
  exact ZO.unit (by intro c e; rw [ho] at e; cases e) hd (fun a ha => by simp [execOp, ho, ev0 ha hx, ev0 ha hy, Instr.storeAt, Instr.sureAddr, storeVar_run hsz hrun]) (h w' hs')
end Z
end Go.Proofs.Ythncbdoiilgnhaa

/- Iterators used inside of loops: the marks are carried along. -/
namespace Go.Proofs.Ythncbdoiilgnhaa
open Go.RowKit
set_option linter.unusedVariables false
set_option linter.unusedSimpArgs false
namespace Z
variable {N : Nat} {E E' : Env} {D : List Deferred} {a : Act} {G : Guards} {F : Fence} {n : Nat} {P : Program} {o : Oper} {v : Value}
variable {K : Act → World → Prop} {Q : Exit → Act → World → Prop} {w w' w0 : World} {x y : Code} {d k : Nat} {f : FuncId} {M : List Nat} {L L1 L2 : List SX.Ent}
/-- a mark among the calls put off, and its object -/
def mkD (d : Nat) : Deferred := { target := .collected d, args := #[] }
def mkE (d : Nat) : SX.Ent := SX.Ent.obj d (.deferred (some []))
theorem loopD {ι : Type} (Dm : ι → List Deferred) (is : List Nat) {E0 : Env} (hk : keepO E is [] = some E0) (envm : ι → Env) (I : ι → World → Prop) (μ : ι → Nat) (i0 : ι) (hD : Dm i0 = D) (hE : Sub (envm i0) E) (h0 : I i0 w)
    (round : ∀ i w, I i w → Z N (envm i ++ E0) (Dm i) (x.wpIn F n P (Exit.then (fun a' w' => ∃ j, Holds a' N (envm j ++ E0) (Dm j) ∧ I j w' ∧ μ j < μ i) Q)) w) : Z N E D ((Code.loop x).wpIn F n P Q) w := by
  classical
  intro a ha
  subst hD
  have hleast : ∀ a w, (∃ i, Holds a N (envm i ++ E0) (Dm i) ∧ I i w) → ∃ m, (∃ i, Holds a N (envm i ++ E0) (Dm i) ∧ I i w ∧ μ i = m) ∧ ∀ k, (∃ i, Holds a N (envm i ++ E0) (Dm i) ∧ I i w ∧ μ i = k) → m ≤ k :=
    fun a w ⟨i, h1, h2⟩ => least (p := fun m => ∃ i, Holds a N (envm i ++ E0) (Dm i) ∧ I i w ∧ μ i = m) ⟨i, h1, h2, rfl⟩
  let μ' : Act → World → Nat := fun a w => if h : ∃ i, Holds a N (envm i ++ E0) (Dm i) ∧ I i w then Classical.choose (hleast a w h) else 0
  refine wpIn_loop (fun a w => ∃ i, Holds a N (envm i ++ E0) (Dm i) ∧ I i w) μ' ⟨i0, ha.sub (Sub.append hE (keepO_sub E is [] trivial hk)), h0⟩ fun a w hi => ?_
  obtain ⟨⟨i, h1, h2, h3⟩, -⟩ := Classical.choose_spec (hleast a w hi)
  have hm : μ' a w = μ i := by simp only [μ', dif_pos hi]; exact h3.symm
  refine wpIn_mono (round i w h2 a h1) fun e a' w' hq => ?_
  cases e with
  | normal =>
    obtain ⟨j, hj1, hj2, hj3⟩ := hq
    refine ⟨⟨j, hj1, hj2⟩, ?_⟩
    have hex' : ∃ i, Holds a' N (envm i ++ E0) (Dm i) ∧ I i w' := ⟨j, hj1, hj2⟩
    have : μ' a' w' ≤ μ j := by simp only [μ', dif_pos hex']; exact (Classical.choose_spec (hleast a' w' hex')).2 _ ⟨j, hj1, hj2, rfl⟩
    rw [hm]
    omega
  | exit _ => exact hq
  | goto _ => exact hq
  | ret => exact hq
  | panic _ => exact hq
  | outgrown => exact hq
theorem againD {ι : Type} {Dm : ι → List Deferred} {env : ι → Env} {I : ι → World → Prop} {μ : ι → Nat} {i : ι} (j : ι) (hD : D = Dm j) (hE : Sub (env j) E) (hI : I j w) (hμ : μ j < μ i) :
    Z N E D (fun a' w' => ∃ j, Holds a' N (env j) (Dm j) ∧ I j w' ∧ μ j < μ i) w := fun a ha => ⟨j, hD ▸ ha.sub hE, hI, hμ⟩

theorem leaveMs {fn : Func} {R : Ending → World → Prop} {tmps : Array Value} {v : Value} : ∀ (ds : List Nat) (w : World), SX.St w0 M w (ds.map mkE ++ L) → (∀ w', SX.St w0 M w' L → (results fn tmps).run P w' = .ok v w' ∧ R (.returned v) w') →
    LeavesInM Fence.wide 0 P fn tmps R (ds.map mkD) .returning w
  | [], w, hs, h => ⟨v, (h w hs).1, (h w hs).2⟩
  | d :: ds, w, hs, h => by
    have hs1 : SX.St w0 M w (([] : List SX.Ent) ++ SX.Ent.obj d (.deferred (some [])) :: (ds.map mkE ++ L)) := hs
    refine ⟨by simp, .inl ⟨d, _, rfl, run_takeDeferred hs1.getMid, ?_⟩⟩
    exact leaveMs ds _ (hs1.putMid (.deferred none)).tl h
theorem outMs {fn : Func} {R : Ending → World → Prop} {vs : List Value} (ds : List Nat) (L : List SX.Ent) (hs : SX.St w0 M w (ds.map mkE ++ L)) (h : ∀ w', SX.St w0 M w' L → RV P w' E fn.results.toList vs) (hR : ∀ w', SX.St w0 M w' L → R (.returned (pack vs)) w') :
    Z N E (ds.map mkD) (bodyPostM Fence.wide 0 P fn R .ret) w := fun a ha => by
  show LeavesInM Fence.wide 0 P fn a.tmps R a.defers .returning w
  rw [ha.defers]
  exact leaveMs ds w hs fun w' hs' => ⟨results_run ha (h w' hs') rfl, hR w' hs'⟩
theorem outMsn {fn : Func} {R : Ending → World → Prop} {vs : List Value} (ds : List Nat) (L : List SX.Ent) (hs : SX.St w0 M w (ds.map mkE ++ L)) (h : ∀ w', SX.St w0 M w' L → RV P w' E fn.results.toList vs) (hR : ∀ w', SX.St w0 M w' L → R (.returned (pack vs)) w') :
    Z N E (ds.map mkD) (bodyPostM Fence.wide 0 P fn R .normal) w := outMs ds L hs h hR
/-- the new mark is put to the others -/
theorem marksEnd {ds : List Nat} {d : Nat} (hs : SX.St w0 M w ((L ++ ds.map mkE) ++ [SX.Ent.obj d (.deferred (some []))])) : SX.St w0 M w (L ++ (d :: ds).map mkE) := by
  refine hs.perm ?_
  rw [List.append_assoc]
  exact List.Perm.append_left _ (List.perm_append_comm (l₁ := [mkE d]))
theorem marksFront {ds : List Nat} (hs : SX.St w0 M w (L ++ ds.map mkE)) : SX.St w0 M w (ds.map mkE ++ L) := hs.rot
/-- a struct of a row of ours -/
theorem cellsRf {α : Type} {enc : α → List Value} {s : Nat} {xs : List α} {g kk cc T m i : Nat} {x : α} {cs : List Value} (hm : SX.Ent.row (.slice (some ⟨g, 0, none⟩) kk cc) T s m (xs.flatMap enc) ∈ L) (hs : ∀ x, (enc x).length = s) (hx : xs[i]? = some x) (hcs : enc x = cs) :
    ∀ w, SX.Keep w0 M L w → ∀ j u, cs[j]? = some u → w.cell? ⟨g, 0 + (i : Int).toNat * s + j, none⟩ = some u := fun w hk j u hu => cellR hm (flat_pos hs hx (by rw [hcs]; exact hu)) w hk

/-! ## drawn regions out of which a panic may come, in a function that puts calls off -/
def PQd (Q : Exit → Act → World → Prop) (d : Nat) : Prop := ∀ (c : List PanicEntry) (a : Act) (u : Value) (w : World), Q (.panic c) (a.put (some d) u) w → Q (.panic c) a w
theorem tXD [Wide F] {ops : Array Oper} {S : World → Prop} {Dn : Nat → Bool} {done : List Nat} (i : Nat) (T : List Nat) (hQ : PQd Q d) (hi : ops[i]? = some o) (hG : effG ops E o = some G) (hd : o.dst = some d) (hc : chk N d E G = true) (hm : (left ops done && SX.mayTakeT .any ops Dn (flags ops.size done) i T) = true)
    (hS : S w) (y : Yd P N D S E G o.op v) (h : Z N ((d, G, v) :: E) D (wpP F n P ops Q S Dn (i :: done)) w) : Z N E D (wpP F n P ops Q S Dn done) w := by
  classical
  simp only [Bool.and_eq_true] at hm
  intro a ha
  obtain ⟨h1, h2, h3⟩ := chk_spec hc
  have hw := wanted_of (ops := ops) (o := o) ha hG
  unfold wpP
  rw [fuel_eq (i := i) hm.1]
  have hmt := hm.2
  obtain ⟨q1, q2, q3, q4⟩ := SX.mayTakeT_spec hmt hi
  have hmt' := hmt
  simp only [SX.mayTakeT, Bool.and_eq_true] at hmt'
  obtain ⟨⟨⟨⟨⟨⟨⟨k1, k2⟩, k3⟩, -⟩, -⟩, -⟩, -⟩, k8⟩ := hmt'
  have hQ' : ∀ u : Value, ∀ c a w, Q (.panic c) (a.put o.dst u) w → Q (.panic c) a w := fun u c a w h => by rw [hd] at h; exact hQ c a u w h
  by_cases hg : gholds a G
  · exact SX.wpAnyS_firstT (fun j => T.contains j) k3 (fun f => Wide.fn f) hi (Region.noSelect_spec k1) (SX.noDefer_spec k2) q1 q2 (hQ' v) _ _ a w q3 q4 (by simpa using k8) (.inl ⟨hw.2 hg, fun w hS => y.2 a ha hg o rfl w hS⟩) hS (by
      rw [hd]
      exact h _ (ha.put h1 h2 h3 (by rw [if_pos hg])))
  · exact SX.wpAnyS_firstT (fun j => T.contains j) k3 (fun f => Wide.fn f) hi (Region.noSelect_spec k1) (SX.noDefer_spec k2) q1 q2 (hQ' undef) _ _ a w q3 q4 (by simpa using k8) (.inr ⟨(by
      cases hb : Region.wanted o (yielded ops a.tmps) with
      | false => rfl
      | true => exact absurd (hw.1 hb) hg), rfl⟩) hS (by
      rw [hd]
      exact h _ (ha.put h1 h2 h3 (by rw [if_neg hg])))
def slotR : ResultVar → Nat
  | .tmp t => t
  | .cell a _ => a
theorem mapM_same {α β : Type} : ∀ (l : List α) (f g : α → Sem β), (∀ x ∈ l, f x = g x) → l.mapM f = l.mapM g
  | [], _, _, _ => rfl
  | x :: l, f, g, h => by
    rw [List.mapM_cons, List.mapM_cons, h x (by simp), mapM_same l f g fun y hy => h y (by simp [hy])]
theorem results_put {fn : Func} {tmps : Array Value} {u : Value} (h : fn.results.toList.all (fun r => slotR r != d) = true) : results fn (tmps.setIfInBounds d u) = results fn tmps := by
  have h2 : ∀ (f : ResultVar → Sem Value), (fn.results.mapM f) = (do let l ← fn.results.toList.mapM f; Pure.pure l.toArray) := fun f => by
    rw [Array.mapM_eq_mapM_toList]
    simp [Functor.map]
  unfold results
  rw [h2, h2]
  congr 1
  congr 1
  refine mapM_same _ _ _ fun r hr => ?_
  have hne : slotR r ≠ d := by simpa using List.all_eq_true.1 h r hr
  have hg : ∀ t, t ≠ d → (tmps.setIfInBounds d u).getD t undef = tmps.getD t undef := fun t ht => by
    simp [Array.getD_eq_getD_getElem?, Array.getElem?_setIfInBounds, Ne.symm ht]
  cases r with
  | tmp t => simp only [slotR] at hne; simp only [hg t hne]
  | cell a t => simp only [slotR] at hne; simp only [hg a hne]
theorem leaves_same {fn : Func} {R : Ending → World → Prop} {t t' : Array Value} (ht : results fn t = results fn t') : ∀ (ds : List Deferred) (m : FrameMode) (w : World), LeavesIn F n P fn t R ds m w → LeavesIn F n P fn t' R ds m w
  | [], .returning, w => fun ⟨v, h1, h2⟩ => ⟨v, ht ▸ h1, h2⟩
  | [], .panicking c, w => id
  | [], .run, w => id
  | d :: ds, m, w => fun ⟨h1, h2, fv, cap, f, args, a1, a2, a3, hc⟩ => ⟨h1, h2, fv, cap, f, args, a1, a2, a3, CallsDIn.mono hc fun e u' w' h => by
    cases e with
    | returned v => exact leaves_same ht ds _ _ h
    | panicked c => exact leaves_same ht ds _ _ h
    | outgrown => exact h⟩
theorem leaves_put {fn : Func} {R : Ending → World → Prop} {tmps : Array Value} {u : Value} {ds : List Deferred} {m : FrameMode} (hr : fn.results.toList.all (fun r => slotR r != d) = true) (h : LeavesIn F n P fn (tmps.setIfInBounds d u) R ds m w) : LeavesIn F n P fn tmps R ds m w :=
  leaves_same (results_put hr) ds m w h
theorem tnSPG [Wide F] {ops : Array Oper} {S : World → Prop} {Dn : Nat → Bool} {done : List Nat} (s : Nat) (b : Bool) (i : Nat) (hi : ops[i]? = some o) (hm : left ops done = true) (hr : Region.ready .any ops (flags ops.size done) = [i]) (hG : effG ops E o = some G) (hs : look s E = some ([], .bool (!b))) (hmem : (s, b) ∈ G)
    (hd : o.dst = some d) (hc : chk N d E G = true) (hS : Dn i = true → S w) (h : Z N ((d, G, undef) :: E) D (wpP F n P ops Q S Dn (i :: done)) w) : Z N E D (wpP F n P ops Q S Dn done) w := by
  intro a ha
  unfold wpP
  rw [fuel_eq (i := i) hm]
  refine ⟨fun h0 => (by rw [hr] at h0; cases h0), fun k hk => ?_⟩
  rw [hr] at hk
  obtain rfl : k = i := by simpa using hk
  obtain ⟨h1, h2, h3⟩ := chk_spec hc
  have hnot := not_holds ha hs hmem
  have hw : Region.wanted o (yielded ops a.tmps) = false := by
    cases hb : Region.wanted o (yielded ops a.tmps) with
    | false => rfl
    | true => exact absurd ((wanted_of (ops := ops) (o := o) ha hG).1 hb) hnot
  unfold Go.wpOpIn
  simp only [hi, hw, Bool.false_eq_true, if_false]
  refine ⟨fun f _ => Wide.fn f, hS, ?_⟩
  rw [hd]
  exact h _ (ha.put h1 h2 h3 (by rw [if_neg hnot]))
end Z
end Go.Proofs.Ythncbdoiilgnhaa

/- Iterators over iterators: a round of the one calls the other's round. -/
namespace Go.Proofs.Ythncbdoiilgnhaa
open Go.RowKit
set_option linter.unusedVariables false
set_option linter.unusedSimpArgs false
namespace SX
variable {w0 w w' : World} {M : List Nat} {L1 L2 L3 : List Ent}
theorem St.swap (h : St w0 M w (L1 ++ (L2 ++ L3))) : St w0 M w (L2 ++ (L1 ++ L3)) := h.perm (by
  rw [← List.append_assoc, ← List.append_assoc]
  exact List.Perm.append_right _ List.perm_append_comm)
/-- a choice among the first things -/
theorem St.selT (h : St w0 M w (L1 ++ L2)) (is : List Nat) (hnd : is.Nodup) : St w0 M w (is.filterMap (L1[·]?) ++ L2) := by
  have h1 := h.lend.sel is hnd
  refine h.comp (N := idsOf L1) ⟨h1.os, h1.tape, h1.output, h1.size, h1.nodup, h1.new, h1.ok, h1.old⟩ (fun _ hb => hb)
end SX
namespace SX
section
variable {F : Fence} {n : Nat} {P : Program} {ops : Array Oper} {Q : Exit → Act → World → Prop} {md : Region.Mode} {S : World → Prop} {D : Nat → Bool}
/-- asz `wpAnyS_firstT`, of an operation that reads no memory, behind which nothing is leant on -/
theorem wpAnyS_firstP {i : Nat} {oi : Oper} {v : Value} (T : Nat → Bool) (hTi : T i = true) (hF : ∀ f, F.fn f) (hi : ops[i]? = some oi) (hsel : ∀ (j : Nat) (o : Oper) cs b, ops[j]? = some o → o.op ≠ .select cs b)
    (hdef : ∀ (j : Nat) (o : Oper) c, ops[j]? = some o → o.op ≠ .defer c)
    (hT : ∀ (j : Nat) (oj : Oper), ops[j]? = some oj → T j = true → j ≠ i → ∃ e ∈ oj.after, Region.binds md e = true ∧ T e.on = true)
    (hDi : D i = false)
    (hQ : ∀ c a w, Q (.panic c) (a.put oi.dst v) w → Q (.panic c) a w) :
    ∀ (fuel : Nat) (listed : Array Bool) (a : Act) (w : World),
      (∀ j, T j = true → listed[j]? = some false) →
      (∀ j oj, ops[j]? = some oj → T j = false → listed.getD j true = false → oi.apart ops oj = true) →
      i ∈ Region.ready md ops listed → YieldsS P ops (fun _ => True) oi v a →
      wpAnyS F n P md ops Q S D fuel (listed.setIfInBounds i true) (a.put oi.dst v) w → wpAnyS F n P md ops Q S D (fuel + 1) listed a w := by
  intro fuel
  induction fuel with
  | zero =>
    intro listed a w _ _ hr hy H
    refine ⟨fun h => (by rw [h] at hr; cases hr), fun j hj => ?_⟩
    by_cases hji : j = i
    · subst hji; exact hy.wpOpIn hF hi (fun c => hdef _ _ c hi) trivial ⟨fun h => (by rw [hDi] at h; cases h), H⟩
    · have := ready_mono hj hji
      rw [H.1] at this
      cases this
  | succ fuel ih =>
    intro listed a w hun hfree hr hy H
    refine ⟨fun h => (by rw [h] at hr; cases hr), fun j hj => ?_⟩
    by_cases hji : j = i
    · subst hji; exact hy.wpOpIn hF hi (fun c => hdef _ _ c hi) trivial ⟨fun h => (by rw [hDi] at h; cases h), H⟩
    · have h1 := H.2 j (ready_mono hj hji)
      obtain ⟨hjun, oj, hoj, hall⟩ := mem_ready.1 hj
      have hTj : T j = false := by
        cases hb : T j with
        | false => rfl
        | true =>
          obtain ⟨e, he, hbd, hTe⟩ := hT j oj hoj hb hji
          have h2 := hall e he hbd
          have h3 := hun _ hTe
          rw [Array.getD_eq_getD_getElem?, h3] at h2
          cases h2
      have h2 := wpOpIn_putS hF hoj (hfree j oj hoj hTj hjun) (fun cs b => hsel i oi cs b hi) (fun cs b => hsel j oj cs b hoj) (fun c => hdef j oj c hoj) hQ hy h1
      have hun' : ∀ k, T k = true → (listed.setIfInBounds j true)[k]? = some false := fun k hk => by
        rw [Array.getElem?_setIfInBounds_ne (fun e => by rw [e, hk] at hTj; cases hTj)]
        exact hun k hk
      have hfree' : ∀ k ok, ops[k]? = some ok → T k = false → (listed.setIfInBounds j true).getD k true = false → oi.apart ops ok = true := fun k ok hk hki hun => by
        refine hfree k ok hk hki ?_
        by_cases hjk : j = k
        · subst hjk; exact hjun
        · rw [getD_set_ne true hjk] at hun; exact hun
      refine wpOpIn_mono (fun a' w' h3 => ⟨h3.2.1, ih (listed.setIfInBounds j true) a' w' hun' hfree' (ready_mono hr (Ne.symm hji)) h3.1 ?_⟩) h2
      rw [Array.setIfInBounds_comm _ _ hji]
      exact h3.2.2
/-- the side conditions, asz one Bool -/
def mayTakeP (md : Region.Mode) (ops : Array Oper) (D : Nat → Bool) (listed : Array Bool) (i : Nat) (T : List Nat) : Bool :=
  Region.noSelect ops && noDefer ops && T.contains i && (T.all fun j => j == i || match ops[j]? with | some o => o.after.toList.any (fun e => Region.binds md e && T.contains e.on) | none => false) &&
    (T.all fun j => match listed[j]? with | some b => !b | none => false) && !D i &&
    ((List.range ops.size).all fun j => T.contains j || listed.getD j true || match ops[i]?, ops[j]? with | some oi, some oj => oi.apart ops oj | _, _ => false) && (Region.ready md ops listed).contains i
theorem mayTakeP_spec {listed : Array Bool} {i : Nat} {oi : Oper} {T : List Nat} (h : mayTakeP md ops D listed i T = true) (hi : ops[i]? = some oi) :
    (∀ (j : Nat) (oj : Oper), ops[j]? = some oj → (T.contains j) = true → j ≠ i → ∃ e ∈ oj.after, Region.binds md e = true ∧ T.contains e.on = true) ∧ D i = false ∧
    (∀ j, T.contains j = true → listed[j]? = some false) ∧ (∀ j oj, ops[j]? = some oj → T.contains j = false → listed.getD j true = false → oi.apart ops oj = true) := by
  simp only [mayTakeP, Bool.and_eq_true] at h
  obtain ⟨⟨⟨⟨⟨⟨⟨h1, h2⟩, h3⟩, h4⟩, h5⟩, h6⟩, h7⟩, h8⟩ := h
  refine ⟨fun j oj hj hTj hji => ?_, by simpa using h6, fun j hTj => ?_, fun j oj hj hTj hun => ?_⟩
  · have := List.all_eq_true.1 h4 j (by simpa using hTj)
    simp only [hj, Bool.or_eq_true, beq_iff_eq, hji, false_or] at this
    obtain ⟨e, he, h9⟩ := List.any_eq_true.1 this
    simp only [Bool.and_eq_true] at h9
    exact ⟨e, by simpa using he, h9⟩
  · have := List.all_eq_true.1 h5 j (by simpa using hTj)
    revert this
    cases listed[j]? with
    | none => simp
    | some b => cases b <;> simp
  · have := List.all_eq_true.1 h7 j (List.mem_range.2 (Array.getElem?_eq_some_iff.1 hj).1)
    rw [hTj, hun, hi, hj] at this
    simpa using this
end
end SX
namespace Z
/-- marks behind what an iterator leans on, and back -/
theorem toRange {w0 w : World} {M : List Nat} {C E0 : List SX.Ent} {ds : List Nat} (h : SX.St w0 M w (C ++ (E0 ++ ds.map mkE))) : SX.St w0 M w ((C ++ ds.map mkE) ++ E0) := h.perm (by
  rw [List.append_assoc]
  exact List.Perm.append_left _ List.perm_append_comm)
theorem fromRange {w0 w : World} {M : List Nat} {C E0 : List SX.Ent} {ds : List Nat} {d : Nat} (h : SX.St w0 M w ((C ++ ds.map mkE) ++ (SX.Ent.obj d (.deferred (some [])) :: E0))) : SX.St w0 M w (C ++ (E0 ++ (d :: ds).map mkE)) := h.perm (by
  rw [List.append_assoc]
  refine List.Perm.append_left _ ?_
  refine List.Perm.trans List.perm_middle ?_
  refine List.Perm.trans (List.Perm.cons _ List.perm_append_comm) ?_
  exact List.perm_middle.symm)
variable {N : Nat} {E E' : Env} {D : List Deferred} {a : Act} {G : Guards} {F : Fence} {n : Nat} {P : Program} {S : World → Prop} {ops : Array Oper} {o : Oper} {v : Value}
variable {K : Act → World → Prop} {Q : Exit → Act → World → Prop} {w w' w0 : World} {rest : List Oper} {M : List Nat} {L L1 L2 : List SX.Ent} {x : Operand} {d : Nat}
/-- a drawn region where S is leant on -/
theorem drawS {id : Nat} (S : World → Prop) (Dn : Nat → Bool) {Q : Exit → Act → World → Prop} (hm : P.follows .mixedOrders = true) (hs : SX.St w0 M w L) (h : ∀ w', SX.St w0 M w' L → Z N E D (wpD F n P ops Q S Dn []) w') : Z N E D ((Code.region id ops true).wpIn F n P Q) w :=
  draw Dn hm (h _ hs.drew)
theorem yieldIn {l l' : Nat} {args : Array Value} {R : Ending → World → Prop} (h : YieldAt Fence.wide 0 P l args w R) : YieldAt (Fence.wide.inRound l') 0 P l args w R := h
/-- a call of yield in a round -/
theorem ZO.yieldIn {l l' : Nat} {asz : Array Operand} {ts : Array TypeId} {vs : List Value} {args : Array Value} {Rp : Ending → World → Prop}
    (ho : o.op = .call { callee := .value x, args := asz, argTypes := ts }) (hd : o.dst = some d) (hc : chk N d E [] = true) (hx : ev E [] x = some (.func (.yield l) #[] #[])) (hv : evs E [] asz.toList = some vs) (he : vs.toArray = args)
    (hY : YieldAt Fence.wide 0 P l args w Rp) (hK : ∀ e w', Rp e w' → ∃ v, e = .returned v ∧ Z N ((d, [], v) :: E) D K w') : ZO (Fence.wide.inRound l') 0 P N E D o K Q w := by
  intro a ha
  obtain ⟨c1, c2, c3⟩ := chk_spec hc
  have hx' := ev0 ha hx
  have hargs : (asz.toList.map a.eval).toArray = args := by rw [evs_eval ha gnil hv, he]
  refine ⟨fun f _ => trivial, ?_⟩
  rw [Oper.semAt_plain (Fence.wide.inRound l') _ o (by intro c hc; rw [ho] at hc; cases hc)]
  obtain ⟨fn, tmps, assign, body, hy, hR⟩ := hY
  have hrun : (execOp a.eval o).run P w = .ok (.round l fn tmps assign body) w := by
    simp only [execOp, ho, resolve, Sem.run_bind, hx', Deferred.ofValue, Sem.run_pure, Result.andThen_ok, invoke]
    rw [← hy, ← hargs]
    congr 2
    apply Array.ext'
    simp
  rw [hrun]
  have hR2 : RoundIn (Fence.wide.inRound l') 0 P l fn tmps assign body w Rp := hR
  refine ⟨fun h => (by cases h), hR2.mono fun e w' hr => ?_⟩
  obtain ⟨v, rfl, hk⟩ := hK e w' hr
  show K (a.put o.dst v) w'
  rw [hd]
  exact hk _ (ha.put c1 c2 c3 (by rw [if_pos gnil]))
/-- number i, which reads no memory, is taken first -/
theorem tY [Wide F] {done : List Nat} {Dn : Nat → Bool} (i : Nat) (T : List Nat) (hi : ops[i]? = some o) (hG : effG ops E o = some G) (hd : o.dst = some d) (hc : chk N d E G = true) (hm : (left ops done && SX.mayTakeP .any ops Dn (flags ops.size done) i T) = true)
    (y : Yd P N D (fun _ => True) E G o.op v) (h : Z N ((d, G, v) :: E) D (wpD F n P ops Q S Dn (i :: done)) w) : Z N E D (wpD F n P ops Q S Dn done) w := by
  classical
  simp only [Bool.and_eq_true] at hm
  intro a ha
  obtain ⟨h1, h2, h3⟩ := chk_spec hc
  have hw := wanted_of (ops := ops) (o := o) ha hG
  unfold wpD
  rw [fuel_eq (i := i) hm.1]
  have hmt := hm.2
  obtain ⟨q1, q2, q3, q4⟩ := SX.mayTakeP_spec hmt hi
  have hmt' := hmt
  simp only [SX.mayTakeP, Bool.and_eq_true] at hmt'
  obtain ⟨⟨⟨⟨⟨⟨⟨k1, k2⟩, k3⟩, -⟩, -⟩, -⟩, -⟩, k8⟩ := hmt'
  have hQ : ∀ u : Value, ∀ c a w, SX.NP Q (.panic c) (a.put o.dst u) w → SX.NP Q (.panic c) a w := fun u c a w h => h.elim
  by_cases hg : gholds a G
  · exact SX.wpAnyS_firstP (fun j => T.contains j) k3 (fun f => Wide.fn f) hi (Region.noSelect_spec k1) (SX.noDefer_spec k2) q1 q2 (hQ v) _ _ a w q3 q4 (by simpa using k8) (.inl ⟨hw.2 hg, fun w hS => y.2 a ha hg o rfl w hS⟩) (by
      rw [hd]
      exact h _ (ha.put h1 h2 h3 (by rw [if_pos hg])))
  · exact SX.wpAnyS_firstP (fun j => T.contains j) k3 (fun f => Wide.fn f) hi (Region.noSelect_spec k1) (SX.noDefer_spec k2) q1 q2 (hQ undef) _ _ a w q3 q4 (by simpa using k8) (.inr ⟨(by
      cases hb : Region.wanted o (yielded ops a.tmps) with
      | false => rfl
      | true => exact absurd (hw.1 hb) hg), rfl⟩) (by
      rw [hd]
      exact h _ (ha.put h1 h2 h3 (by rw [if_neg hg])))
end Z
end Go.Proofs.Ythncbdoiilgnhaa

/- Blocks and rows of ours, asz readers see them. -/
namespace Go.Proofs.Ythncbdoiilgnhaa
open Go.RowKit
set_option linter.unusedVariables false
set_option linter.unusedSimpArgs false

def Cel (w : World) (g : Nat) (cs : List Value) : Prop := g < w.heap.size ∧ ∀ i u, cs[i]? = some u → w.cell? ⟨g, i, none⟩ = some u
theorem Cel.st {w W : World} {L : List SX.Ent} {g : Nat} {cs : List Value} (h : Cel w g cs) (hW : SX.St w [] W L) : Cel W g cs :=
  ⟨Nat.lt_of_lt_of_le h.1 hW.size, fun i u hu => (hW.oldcell (p := ⟨g, i, none⟩) h.1 (by simp)).trans (h.2 i u hu)⟩
theorem SX.St.celOf {w0 w : World} {M : List Nat} {L : List SX.Ent} {g T : Nat} {cs : List Value} (hs : SX.St w0 M w L) (hm : SX.Ent.blk g T cs.toArray ∈ L) : Cel w g cs := by
  have hr : w.heap[g]? = some (.cells cs.toArray T (0, 0)) := hs.ok _ hm
  exact ⟨SX.lt_of_some hr, fun i u hu => (SX.cell_blk hr i).trans (by simpa using hu)⟩
theorem _root_.Go.Proofs.Ythncbdoiilgnhaa.SX.St.blkSl {w0 w : World} {M : List Nat} {L : List SX.Ent} {g T : Nat} {cs : Array Value} (hs : SX.St w0 M w L) (hm : SX.Ent.blk g T cs ∈ L) : Sl w (some ⟨g, 0, none⟩) cs.toList := fun hp => by
  have hr : w.heap[g]? = some (.cells cs T (0, 0)) := hs.ok _ hm
  refine ⟨g, 0, rfl, SX.lt_of_some hr, fun i u hu => ?_⟩
  rw [Nat.zero_add]
  exact (SX.cell_blk hr i).trans (by simpa using hu)
theorem _root_.Go.Proofs.Ythncbdoiilgnhaa.SX.St.slm {w0 w : World} {M : List Nat} {L : List SX.Ent} {T k size c m : Nat} {A : Option Addr} {xs : List Value} (hs : SX.St w0 M w L) (hm : SX.Ent.row (.slice A k c) T size m xs ∈ L) : Sl w A xs := by
  obtain ⟨j, hj⟩ := List.getElem?_of_mem hm
  exact SX.row_slB hs hj
theorem rowEq {w0 w : World} {M : List Nat} {L : List SX.Ent} {v : Value} {T s k k' : Nat} {xs xs' : List Value} (hs : SX.St w0 M w (SX.Ent.row v T s k xs :: L)) (h1 : k = k') (h2 : xs = xs') : SX.St w0 M w (SX.Ent.row v T s k' xs' :: L) := by
  subst h1 h2
  exact hs
theorem blkEq {w0 w : World} {M : List Nat} {L : List SX.Ent} {g T : Nat} {cs cs' : Array Value} (hs : SX.St w0 M w (SX.Ent.blk g T cs :: L)) (h : cs = cs') : SX.St w0 M w (SX.Ent.blk g T cs' :: L) := by
  subst h
  exact hs
theorem Sl.zero {w : World} {A : Option Addr} {xs : List Value} (h : Sl w A xs) (hA : A = none) : xs.length = 0 := by
  subst hA
  rcases Nat.eq_zero_or_pos xs.length with h0 | h0
  · exact h0
  · obtain ⟨b, off, e, -⟩ := h h0
    cases e
theorem Sl.pre {w : World} {A : Option Addr} {xs ys : List Value} (h : Sl w A xs) (hp : ys <+: xs) : Sl w A ys := fun h0 => by
  obtain ⟨b, off, e, hb, hc⟩ := h (Nat.lt_of_lt_of_le h0 hp.length_le)
  refine ⟨b, off, e, hb, fun j u hu => hc j u ?_⟩
  obtain ⟨t, rfl⟩ := hp
  rw [List.getElem?_append_left (List.getElem?_eq_some_iff.1 hu).1]
  exact hu
theorem by8 {l : List Int} (h : l.all (fun x => decide (0 ≤ x ∧ x < 256)) = true) : ∀ x ∈ l, 0 ≤ x ∧ x < 256 := fun x hx => by simpa using List.all_eq_true.1 h x hx
theorem sl_nil {w : World} {A : Option Addr} : Sl w A [] := fun h => absurd h (by decide)
theorem sx_nil {w : World} {M : List Nat} {A : Option Addr} : Sx w M A [] := fun h => absurd h (by decide)
theorem wm64 {n : Int} (h : 0 ≤ n ∧ n < 18446744073709551616) : IntKind.u64.wrap n = n := by
  simp only [IntKind.wrap, IntKind.signed, IntKind.bits]
  simp
  omega
/-- a struct that is read whole -/
theorem Cel.agg {w0 : World} {M : List Nat} {L : List SX.Ent} {g : Nat} {cs : List Value} (h : Cel w0 g cs) (hM : g ∉ M) : ∀ w, SX.Keep w0 M L w → ∀ (j : Nat) (u : Value), cs[j]? = some u → w.cell? ⟨g, 0 + j, none⟩ = some u := fun w hK j u hu => by
  rw [Nat.zero_add]
  exact Z.cellO h.1 hM (h.2 j u hu) w hK
theorem _root_.Go.Proofs.Ythncbdoiilgnhaa.SX.St.keepBlk {w0 w : World} {M : List Nat} {L : List SX.Ent} {g T : Nat} {cs : Array Value} (hs : SX.St w0 M w L) (hm : SX.Ent.blk g T cs ∈ L) (i : Nat) : w.cell? ⟨g, i, none⟩ = cs[i]? := SX.cell_blk (hs.ok _ hm) i
end Go.Proofs.Ythncbdoiilgnhaa

/- The Z engine: a scope with one label that the run jumps forward to. -/
namespace Go.Proofs.Ythncbdoiilgnhaa
open Go.RowKit
set_option linter.unusedVariables false
set_option linter.unusedSimpArgs false

namespace Z
variable {P : Program} {N : Nat} {E : Env} {D : List Deferred} {w : World} {Q : Exit → Act → World → Prop}

/-- first the code in order; every jump to the label brings 'envm' and 'I'; then the code behind the label, where nobody jumps -/
theorem scopeJ {ι : Type} {c rest : Code} (l : Nat) (hf : findLabel c l = some rest) (is : List Nat) {E0 : Env} (hk : keepO E is [] = some E0) (envm : ι → Env) (I : ι → World → Prop)
    (first : Z N E D (c.wpIn Fence.wide 0 P (Exit.jump l (fun a' w' => ∃ j, Holds a' N (envm j ++ E0) D ∧ I j w') Q)) w)
    (pass : ∀ j w, I j w → Z N (envm j ++ E0) D (rest.wpIn Fence.wide 0 P (Exit.noGoto Q)) w) : Z N E D ((Code.scope c).wpIn Fence.wide 0 P Q) w := fun a ha =>
  wpIn_wide.2 (wp_scope_jumps l _ (fun _ _ => 0) hf (wpIn_wide.1 (first a ha)) (fun a' w' hJ => by
    obtain ⟨j, h1, h2⟩ := hJ
    refine wpIn_wide.1 (wpIn_mono (pass j w' h2 a' h1) fun e a1 w1 hq => ?_)
    cases e with
    | normal => exact hq
    | exit _ => exact hq
    | goto _ => exact hq.elim
    | ret => exact hq
    | panic _ => exact hq
    | outgrown => exact hq))
section
variable {l : Nat} {J : Act → World → Prop}
theorem gjump (h : Z N E D J w) : Z N E D (Exit.jump l J Q (.goto l)) w := fun a ha => ⟨rfl, h a ha⟩
theorem njump (h : Z N E D (Q .normal) w) : Z N E D (Exit.jump l J Q .normal) w := h
theorem rjump (h : Z N E D (Q .ret) w) : Z N E D (Exit.jump l J Q .ret) w := h
theorem xjump {id : Nat} (h : Z N E D (Q (.exit id)) w) : Z N E D (Exit.jump l J Q (.exit id)) w := h
theorem pjump {ch : List PanicEntry} (h : Z N E D (Q (.panic ch)) w) : Z N E D (Exit.jump l J Q (.panic ch)) w := h
end
end Z
end Go.Proofs.Ythncbdoiilgnhaa
