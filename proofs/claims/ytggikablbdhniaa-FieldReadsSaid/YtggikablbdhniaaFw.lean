/- A nil writer, a nil reader. -/
import Derived.Test.YtggikablbdhniaaFv
namespace Go.Proofs.Ytggikablbdhniaa
open Go.RowKit
set_option linter.unusedSimpArgs false
set_option linter.unusedVariables false

theorem nil_PutBytes (A : Option Addr) (n c : Nat) (w : World) : Calls Try.prog 16 #[.pointer none, .slice A n c] w (SX.Ret fun r w' => r = .int .i64 1 ∧ SX.St w [] w' []) := by
  have hs := SX.St.start w
  refine Z.enter Try.func16 rfl Try.ntmps16 rfl rfl ?_
  refine Z.seq ?_
  refine Z.region ?_
  refine Z.lb 1 rfl ?_
  refine Z.lnil ?_
  refine Z.only [0, 1] rfl ?_
  refine Z.nthen ?_
  refine Z.seq ?_
  refine Z.seq ?_
  refine Z.region ?_
  refine Z.lb 1 rfl ?_
  refine Z.l rfl rfl (by rfl) (Z.keepS hs) (Z.Yd.ptrNil rfl rfl Try.underlying32) ?_
  refine Z.lnil ?_
  refine Z.only [0, 1, 8] rfl ?_
  refine Z.nthen ?_
  refine Z.cond rfl (fun hc1 => ?_) (fun h => absurd h (by simp))
  refine Z.seq ?_
  refine Z.region ?_
  refine Z.lb 1 rfl ?_
  refine Z.lnil ?_
  refine Z.only [4] rfl ?_
  refine Z.nthen ?_
  refine Z.ret ?_
  repeat (first | refine Z.rthen ?_ | refine Z.rblock ?_ | refine Z.rscope ?_)
  -- ret#0
  refine Z.out1 (by exact ⟨rfl, trivial⟩) ?_
  first | exact ⟨_, rfl, rfl, hs⟩ | exact ⟨_, rfl, rfl, hs.sub (List.nil_sublist _)⟩
theorem nil_PutAll (A : Option Addr) (n c : Nat) (w : World) : Calls Try.prog 20 #[.pointer none, .slice A n c] w (SX.Ret fun r w' => r = .int .i64 1 ∧ SX.St w [] w' []) := by
  have hs := SX.St.start w
  refine Z.enter Try.func20 rfl Try.ntmps20 rfl rfl ?_
  refine Z.seq ?_
  refine Z.region ?_
  refine Z.lb 1 rfl ?_
  refine Z.lnil ?_
  refine Z.only [0, 1] rfl ?_
  refine Z.nthen ?_
  refine Z.seq ?_
  refine Z.seq ?_
  refine Z.region ?_
  refine Z.lb 1 rfl ?_
  refine Z.l rfl rfl (by rfl) (Z.keepS hs) (Z.Yd.ptrNil rfl rfl Try.underlying32) ?_
  refine Z.lnil ?_
  refine Z.only [0, 1, 11] rfl ?_
  refine Z.nthen ?_
  refine Z.cond rfl (fun hc1 => ?_) (fun h => absurd h (by simp))
  refine Z.seq ?_
  refine Z.region ?_
  refine Z.lb 1 rfl ?_
  refine Z.lnil ?_
  refine Z.only [4] rfl ?_
  refine Z.nthen ?_
  refine Z.ret ?_
  repeat (first | refine Z.rthen ?_ | refine Z.rblock ?_ | refine Z.rscope ?_)
  -- ret#0
  refine Z.out1 (by exact ⟨rfl, trivial⟩) ?_
  first | exact ⟨_, rfl, rfl, hs⟩ | exact ⟨_, rfl, rfl, hs.sub (List.nil_sublist _)⟩
theorem nil_Put (v n : Int) (w : World) : Calls Try.prog 32 #[.pointer none, .int .u64 v, .int .i64 n] w (SX.Ret fun r w' => r = .int .i64 1 ∧ SX.St w [] w' []) := by
  have hs := SX.St.start w
  refine Z.enter Try.func32 rfl Try.ntmps32 rfl rfl ?_
  refine Z.seq ?_
  refine Z.region ?_
  refine Z.lb 1 rfl ?_
  refine Z.lnil ?_
  refine Z.only [0, 1, 2] rfl ?_
  refine Z.nthen ?_
  refine Z.seq ?_
  refine Z.region ?_
  refine Z.lb 3 rfl ?_
  refine Z.l rfl rfl (by rfl) (Z.keepS hs) (Z.Yd.build rfl (by intro w; go_simp; try rfl)) ?_
  refine Z.le rfl trivial ?_
  refine Z.ZO.lit rfl rfl (by rfl) rfl (by intro W; go_simp; exact rfl) hs ?_
  clear hs; intro g11 w11 hs
  refine Z.le rfl trivial ?_
  refine Z.ZO.call rfl rfl (by rfl) rfl rfl Try.call20 rfl (nil_PutAll _ _ _ _) ?_
  rintro v1_5 w1_5 ⟨rfl, hy⟩
  replace hs := hs.call hy
  clear hy
  try simp only [List.cons_append, List.nil_append, List.append_nil] at hs
  refine Z.lb 1 rfl ?_
  refine Z.lnil ?_
  refine Z.only [6] rfl ?_
  refine Z.nthen ?_
  refine Z.ret ?_
  -- ret#0
  refine Z.out1 (by exact ⟨rfl, trivial⟩) ?_
  first | exact ⟨_, rfl, rfl, hs⟩ | exact ⟨_, rfl, rfl, hs.sub (List.nil_sublist _)⟩
theorem nil_Align  (w : World) : Calls Try.prog 33 #[.pointer none] w (SX.Ret fun r w' => r = .int .i64 1 ∧ SX.St w [] w' []) := by
  have hs := SX.St.start w
  refine Z.enter Try.func33 rfl Try.ntmps33 rfl rfl ?_
  refine Z.seq ?_
  refine Z.region ?_
  refine Z.lb 1 rfl ?_
  refine Z.lnil ?_
  refine Z.only [0] rfl ?_
  refine Z.nthen ?_
  refine Z.seq ?_
  refine Z.seq ?_
  refine Z.region ?_
  refine Z.lb 1 rfl ?_
  refine Z.l rfl rfl (by rfl) (Z.keepS hs) (Z.Yd.ptrNil rfl rfl Try.underlying32) ?_
  refine Z.lnil ?_
  refine Z.only [0, 4] rfl ?_
  refine Z.nthen ?_
  refine Z.cond rfl (fun hc1 => ?_) (fun h => absurd h (by simp))
  refine Z.seq ?_
  refine Z.region ?_
  refine Z.lb 1 rfl ?_
  refine Z.lnil ?_
  refine Z.only [2] rfl ?_
  refine Z.nthen ?_
  refine Z.ret ?_
  repeat (first | refine Z.rthen ?_ | refine Z.rblock ?_ | refine Z.rscope ?_)
  -- ret#0
  refine Z.out1 (by exact ⟨rfl, trivial⟩) ?_
  first | exact ⟨_, rfl, rfl, hs⟩ | exact ⟨_, rfl, rfl, hs.sub (List.nil_sublist _)⟩
theorem nil_Len  (w : World) : Calls Try.prog 12 #[.pointer none] w (SX.Ret fun r w' => r = .int .i64 0 ∧ SX.St w [] w' []) := by
  have hs := SX.St.start w
  refine Z.enter Try.func12 rfl Try.ntmps12 rfl rfl ?_
  refine Z.seq ?_
  refine Z.region ?_
  refine Z.lb 1 rfl ?_
  refine Z.lnil ?_
  refine Z.only [0] rfl ?_
  refine Z.nthen ?_
  refine Z.seq ?_
  refine Z.seq ?_
  refine Z.region ?_
  refine Z.lb 1 rfl ?_
  refine Z.l rfl rfl (by rfl) (Z.keepS hs) (Z.Yd.ptrNil rfl rfl Try.underlying32) ?_
  refine Z.lnil ?_
  refine Z.only [0, 4] rfl ?_
  refine Z.nthen ?_
  refine Z.cond rfl (fun hc1 => ?_) (fun h => absurd h (by simp))
  refine Z.seq ?_
  refine Z.region ?_
  refine Z.lb 1 rfl ?_
  refine Z.lnil ?_
  refine Z.only [2] rfl ?_
  refine Z.nthen ?_
  refine Z.ret ?_
  repeat (first | refine Z.rthen ?_ | refine Z.rblock ?_ | refine Z.rscope ?_)
  -- ret#0
  refine Z.out1 (by exact ⟨rfl, trivial⟩) ?_
  first | exact ⟨_, rfl, rfl, hs⟩ | exact ⟨_, rfl, rfl, hs.sub (List.nil_sublist _)⟩
theorem nil_Bytes  (w : World) : Calls Try.prog 14 #[.pointer none] w (SX.Ret fun r w' => r = .slice none 0 0 ∧ SX.St w [] w' []) := by
  have hs := SX.St.start w
  refine Z.enter Try.func14 rfl Try.ntmps14 rfl rfl ?_
  refine Z.seq ?_
  refine Z.region ?_
  refine Z.lb 1 rfl ?_
  refine Z.lnil ?_
  refine Z.only [0] rfl ?_
  refine Z.nthen ?_
  refine Z.seq ?_
  refine Z.seq ?_
  refine Z.region ?_
  refine Z.lb 1 rfl ?_
  refine Z.l rfl rfl (by rfl) (Z.keepS hs) (Z.Yd.ptrNil rfl rfl Try.underlying32) ?_
  refine Z.lnil ?_
  refine Z.only [0, 4] rfl ?_
  refine Z.nthen ?_
  refine Z.cond rfl (fun hc1 => ?_) (fun h => absurd h (by simp))
  refine Z.seq ?_
  refine Z.region ?_
  refine Z.lb 1 rfl ?_
  refine Z.lnil ?_
  refine Z.only [2] rfl ?_
  refine Z.nthen ?_
  refine Z.ret ?_
  repeat (first | refine Z.rthen ?_ | refine Z.rblock ?_ | refine Z.rscope ?_)
  -- ret#0
  refine Z.out1 (by exact ⟨rfl, trivial⟩) ?_
  first | exact ⟨_, rfl, rfl, hs⟩ | exact ⟨_, rfl, rfl, hs.sub (List.nil_sublist _)⟩
theorem nil_Get (n : Int) (w : World) : Calls Try.prog 25 #[.pointer none, .int .i64 n] w (SX.Ret fun r w' => r = .tuple #[.int .u64 0, .int .i64 1] ∧ SX.St w [] w' []) := by
  have hs := SX.St.start w
  refine Z.enter Try.func25 rfl Try.ntmps25 rfl rfl ?_
  refine Z.seq ?_
  refine Z.region ?_
  refine Z.lb 2 rfl ?_
  refine Z.lnil ?_
  refine Z.only [0, 1, 4] rfl ?_
  refine Z.nthen ?_
  refine Z.seq ?_
  refine Z.block ?_
  refine Z.seq ?_
  refine Z.region ?_
  refine Z.lb 1 rfl ?_
  refine Z.l rfl rfl (by rfl) (Z.keepS hs) (Z.Yd.ptrNil rfl rfl Try.underlying51) ?_
  refine Z.lb 1 rfl ?_
  refine Z.lnil ?_
  refine Z.only [0, 1, 4, 6] rfl ?_
  refine Z.nthen ?_
  refine Z.cond rfl (fun hc1 => ?_) (fun h => absurd h (by simp))
  refine Z.seq ?_
  refine Z.region ?_
  refine Z.lb 2 rfl ?_
  refine Z.lnil ?_
  refine Z.only [4, 5] rfl ?_
  refine Z.nthen ?_
  refine Z.ret ?_
  repeat (first | refine Z.rthen ?_ | refine Z.rblock ?_ | refine Z.rscope ?_)
  -- ret#0
  refine Z.out2 (by exact ⟨rfl, rfl, trivial⟩) ?_
  first | exact ⟨_, rfl, rfl, hs⟩ | exact ⟨_, rfl, rfl, hs.sub (List.nil_sublist _)⟩
theorem nil_GetBytes (n : Int) (w : World) : Calls Try.prog 26 #[.pointer none, .int .i64 n] w (SX.Ret fun r w' => r = .tuple #[.slice none 0 0, .int .i64 1] ∧ SX.St w [] w' []) := by
  have hs := SX.St.start w
  refine Z.enter Try.func26 rfl Try.ntmps26 rfl rfl ?_
  refine Z.seq ?_
  refine Z.region ?_
  refine Z.lb 2 rfl ?_
  refine Z.lnil ?_
  refine Z.only [0, 1] rfl ?_
  refine Z.nthen ?_
  refine Z.seq ?_
  refine Z.block ?_
  refine Z.seq ?_
  refine Z.region ?_
  refine Z.lb 1 rfl ?_
  refine Z.l rfl rfl (by rfl) (Z.keepS hs) (Z.Yd.ptrNil rfl rfl Try.underlying51) ?_
  refine Z.lb 1 rfl ?_
  refine Z.lnil ?_
  refine Z.only [0, 1, 6] rfl ?_
  refine Z.nthen ?_
  refine Z.cond rfl (fun hc1 => ?_) (fun h => absurd h (by simp))
  refine Z.seq ?_
  refine Z.region ?_
  refine Z.lb 2 rfl ?_
  refine Z.lnil ?_
  refine Z.only [4, 5] rfl ?_
  refine Z.nthen ?_
  refine Z.ret ?_
  repeat (first | refine Z.rthen ?_ | refine Z.rblock ?_ | refine Z.rscope ?_)
  -- ret#0
  refine Z.out2 (by exact ⟨rfl, rfl, trivial⟩) ?_
  first | exact ⟨_, rfl, rfl, hs⟩ | exact ⟨_, rfl, rfl, hs.sub (List.nil_sublist _)⟩
theorem nil_RAlign  (w : World) : Calls Try.prog 28 #[.pointer none] w (SX.Ret fun r w' => r = .int .i64 1 ∧ SX.St w [] w' []) := by
  have hs := SX.St.start w
  refine Z.enter Try.func28 rfl Try.ntmps28 rfl rfl ?_
  refine Z.seq ?_
  refine Z.region ?_
  refine Z.lb 1 rfl ?_
  refine Z.lnil ?_
  refine Z.only [0] rfl ?_
  refine Z.nthen ?_
  refine Z.seq ?_
  refine Z.seq ?_
  refine Z.region ?_
  refine Z.lb 1 rfl ?_
  refine Z.l rfl rfl (by rfl) (Z.keepS hs) (Z.Yd.ptrNil rfl rfl Try.underlying51) ?_
  refine Z.lnil ?_
  refine Z.only [0, 7] rfl ?_
  refine Z.nthen ?_
  refine Z.cond rfl (fun hc1 => ?_) (fun h => absurd h (by simp))
  refine Z.seq ?_
  refine Z.region ?_
  refine Z.lb 1 rfl ?_
  refine Z.lnil ?_
  refine Z.only [2] rfl ?_
  refine Z.nthen ?_
  refine Z.ret ?_
  repeat (first | refine Z.rthen ?_ | refine Z.rblock ?_ | refine Z.rscope ?_)
  -- ret#0
  refine Z.out1 (by exact ⟨rfl, trivial⟩) ?_
  first | exact ⟨_, rfl, rfl, hs⟩ | exact ⟨_, rfl, rfl, hs.sub (List.nil_sublist _)⟩
theorem nil_At  (w : World) : Calls Try.prog 23 #[.pointer none] w (SX.Ret fun r w' => r = .int .i64 0 ∧ SX.St w [] w' []) := by
  have hs := SX.St.start w
  refine Z.enter Try.func23 rfl Try.ntmps23 rfl rfl ?_
  refine Z.seq ?_
  refine Z.region ?_
  refine Z.lb 1 rfl ?_
  refine Z.lnil ?_
  refine Z.only [0] rfl ?_
  refine Z.nthen ?_
  refine Z.seq ?_
  refine Z.seq ?_
  refine Z.region ?_
  refine Z.lb 1 rfl ?_
  refine Z.l rfl rfl (by rfl) (Z.keepS hs) (Z.Yd.ptrNil rfl rfl Try.underlying51) ?_
  refine Z.lnil ?_
  refine Z.only [0, 4] rfl ?_
  refine Z.nthen ?_
  refine Z.cond rfl (fun hc1 => ?_) (fun h => absurd h (by simp))
  refine Z.seq ?_
  refine Z.region ?_
  refine Z.lb 1 rfl ?_
  refine Z.lnil ?_
  refine Z.only [2] rfl ?_
  refine Z.nthen ?_
  refine Z.ret ?_
  repeat (first | refine Z.rthen ?_ | refine Z.rblock ?_ | refine Z.rscope ?_)
  -- ret#0
  refine Z.out1 (by exact ⟨rfl, trivial⟩) ?_
  first | exact ⟨_, rfl, rfl, hs⟩ | exact ⟨_, rfl, rfl, hs.sub (List.nil_sublist _)⟩
theorem nil_Left  (w : World) : Calls Try.prog 24 #[.pointer none] w (SX.Ret fun r w' => r = .int .i64 0 ∧ SX.St w [] w' []) := by
  have hs := SX.St.start w
  refine Z.enter Try.func24 rfl Try.ntmps24 rfl rfl ?_
  refine Z.seq ?_
  refine Z.region ?_
  refine Z.lb 1 rfl ?_
  refine Z.lnil ?_
  refine Z.only [0] rfl ?_
  refine Z.nthen ?_
  refine Z.seq ?_
  refine Z.seq ?_
  refine Z.region ?_
  refine Z.lb 1 rfl ?_
  refine Z.l rfl rfl (by rfl) (Z.keepS hs) (Z.Yd.ptrNil rfl rfl Try.underlying51) ?_
  refine Z.lnil ?_
  refine Z.only [0, 4] rfl ?_
  refine Z.nthen ?_
  refine Z.cond rfl (fun hc1 => ?_) (fun h => absurd h (by simp))
  refine Z.seq ?_
  refine Z.region ?_
  refine Z.lb 1 rfl ?_
  refine Z.lnil ?_
  refine Z.only [2] rfl ?_
  refine Z.nthen ?_
  refine Z.ret ?_
  repeat (first | refine Z.rthen ?_ | refine Z.rblock ?_ | refine Z.rscope ?_)
  -- ret#0
  refine Z.out1 (by exact ⟨rfl, trivial⟩) ?_
  first | exact ⟨_, rfl, rfl, hs⟩ | exact ⟨_, rfl, rfl, hs.sub (List.nil_sublist _)⟩
theorem nil_End  (w : World) : Calls Try.prog 27 #[.pointer none] w (SX.Ret fun r w' => r = .int .i64 1 ∧ SX.St w [] w' []) := by
  have hs := SX.St.start w
  refine Z.enter Try.func27 rfl Try.ntmps27 rfl rfl ?_
  refine Z.seq ?_
  refine Z.region ?_
  refine Z.lb 1 rfl ?_
  refine Z.lnil ?_
  refine Z.only [0] rfl ?_
  refine Z.nthen ?_
  refine Z.seq ?_
  refine Z.seq ?_
  refine Z.region ?_
  refine Z.lb 1 rfl ?_
  refine Z.l rfl rfl (by rfl) (Z.keepS hs) (Z.Yd.ptrNil rfl rfl Try.underlying51) ?_
  refine Z.lnil ?_
  refine Z.only [0, 5] rfl ?_
  refine Z.nthen ?_
  refine Z.cond rfl (fun hc1 => ?_) (fun h => absurd h (by simp))
  refine Z.seq ?_
  refine Z.region ?_
  refine Z.lb 1 rfl ?_
  refine Z.lnil ?_
  refine Z.only [2] rfl ?_
  refine Z.nthen ?_
  refine Z.ret ?_
  repeat (first | refine Z.rthen ?_ | refine Z.rblock ?_ | refine Z.rscope ?_)
  -- ret#0
  refine Z.out1 (by exact ⟨rfl, trivial⟩) ?_
  first | exact ⟨_, rfl, rfl, hs⟩ | exact ⟨_, rfl, rfl, hs.sub (List.nil_sublist _)⟩
theorem nil_each (A : Option Addr) (n c : Nat) (f : Value) (w : World) : Calls Try.prog 42 #[.pointer none, .slice A n c, f] w (SX.Ret fun r w' => r = .tuple #[.slice none 0 0, .int .i64 1] ∧ SX.St w [] w' []) := by
  have hs := SX.St.start w
  refine Z.enterD Try.func42 rfl Try.ntmps42 rfl rfl ?_
  refine Z.seq ?_
  refine Z.region ?_
  refine Z.le rfl trivial ?_
  refine Z.ZO.box rfl rfl (by rfl) rfl rfl hs ?_
  clear hs; intro g3 w3 hs
  refine Z.le rfl trivial ?_
  refine Z.ZO.alloc rfl rfl (by rfl) Try.zeroValue53 rfl hs ?_
  clear hs; intro g6 w6 hs
  refine Z.le rfl trivial ?_
  refine Z.ZO.alloc rfl rfl (by rfl) Try.zeroValue41 rfl hs ?_
  clear hs; intro g7 w7 hs
  refine Z.lnil ?_
  refine Z.only [1, 2, 3, 6, 7] rfl ?_
  refine Z.nthen ?_
  refine Z.seq ?_
  refine Z.seq ?_
  refine Z.region ?_
  refine Z.l rfl rfl (by rfl) (Z.keepS hs) (by first | exact Z.Yd.load rfl Try.isAgg51 (fun _ => Z.cellB (by first | ((repeat (first | exact List.mem_cons_self | refine List.mem_cons_of_mem _ ?_ | refine List.mem_append_right _ ?_)); done) | fail) rfl) | exact Z.Yd.load rfl Try.isAgg51 (fun _ => Z.cellO (by assumption) (by simp) (by assumption)) | fail "load 1.0") ?_
  refine Z.l rfl rfl (by rfl) (Z.keepS hs) (Z.Yd.ptrNil rfl rfl Try.underlying51) ?_
  refine Z.lnil ?_
  refine Z.only [1, 2, 3, 6, 7, 14] rfl ?_
  refine Z.nthen ?_
  refine Z.cond rfl (fun hc1 => ?_) (fun h => absurd h (by simp))
  refine Z.seq ?_
  refine Z.region ?_
  refine Z.le rfl trivial ?_
  first | refine Z.ZO.store rfl rfl hs Try.sizeOf53 rfl rfl rfl (by first | exact SX.at0 | exact SX.at1 | exact SX.at2 | exact SX.at3 | exact SX.at4 | exact SX.at5 | exact Z.at6 | exact Z.at7 | exact Z.at8 | exact Z.at9 | exact Z.at10 | exact Z.at11 | exact Z.at12) (by simp) ?_ | refine Z.ZO.storeR rfl rfl hs Try.sizeOf53 rfl rfl rfl (by first | exact SX.at0 | exact SX.at1 | exact SX.at2 | exact SX.at3 | exact SX.at4 | exact SX.at5 | exact Z.at6 | exact Z.at7 | exact Z.at8 | exact Z.at9 | exact Z.at10 | exact Z.at11 | exact Z.at12) (by first | omega | (simp [ints_length]; done) | (simp [ints_length]; omega)) ?_
  clear hs; intro ws hs
  simp only [Nat.zero_add, Nat.add_zero, Nat.reduceAdd, List.set_cons_zero, List.set_cons_succ, List.setIfInBounds_toArray] at hs
  refine Z.le rfl trivial ?_
  first | refine Z.ZO.store rfl rfl hs Try.sizeOf41 rfl rfl rfl (by first | exact SX.at0 | exact SX.at1 | exact SX.at2 | exact SX.at3 | exact SX.at4 | exact SX.at5 | exact Z.at6 | exact Z.at7 | exact Z.at8 | exact Z.at9 | exact Z.at10 | exact Z.at11 | exact Z.at12) (by simp) ?_ | refine Z.ZO.storeR rfl rfl hs Try.sizeOf41 rfl rfl rfl (by first | exact SX.at0 | exact SX.at1 | exact SX.at2 | exact SX.at3 | exact SX.at4 | exact SX.at5 | exact Z.at6 | exact Z.at7 | exact Z.at8 | exact Z.at9 | exact Z.at10 | exact Z.at11 | exact Z.at12) (by first | omega | (simp [ints_length]; done) | (simp [ints_length]; omega)) ?_
  clear hs; intro ws hs
  simp only [Nat.zero_add, Nat.add_zero, Nat.reduceAdd, List.set_cons_zero, List.set_cons_succ, List.setIfInBounds_toArray] at hs
  refine Z.lnil ?_
  refine Z.only [6, 7] rfl ?_
  refine Z.nthen ?_
  refine Z.ret ?_
  repeat (first | refine Z.rthen ?_ | refine Z.rblock ?_ | refine Z.rscope ?_)
  -- ret#0
  refine Z.outD0 (vs := [_, _]) (by exact ⟨⟨_, rfl, Z.rvc hs Try.isAgg53 (by first | ((repeat (first | exact List.mem_cons_self | refine List.mem_cons_of_mem _ ?_ | refine List.mem_append_right _ ?_)); done) | fail) rfl⟩, ⟨_, rfl, Z.rvc hs Try.isAgg41 (by first | ((repeat (first | exact List.mem_cons_self | refine List.mem_cons_of_mem _ ?_ | refine List.mem_append_right _ ?_)); done) | fail) rfl⟩, trivial⟩) ?_
  first | exact ⟨_, rfl, rfl, hs⟩ | exact ⟨_, rfl, rfl, hs.sub (List.nil_sublist _)⟩
theorem nil_GetAll (A : Option Addr) (n c : Nat) (w : World) : Calls Try.prog 22 #[.pointer none, .slice A n c] w (SX.Ret fun r w' => r = .tuple #[.slice none 0 0, .int .i64 1] ∧ SX.St w [] w' []) := by
  have hs := SX.St.start w
  refine Z.enter Try.func22 rfl Try.ntmps22 rfl rfl ?_
  refine Z.seq ?_
  refine Z.region ?_
  refine Z.lb 2 rfl ?_
  refine Z.lnil ?_
  refine Z.only [0, 1] rfl ?_
  refine Z.nthen ?_
  refine Z.seq ?_
  refine Z.region ?_
  refine Z.lb 4 rfl ?_
  refine Z.le rfl trivial ?_
  refine Z.ZO.call rfl rfl (by rfl) rfl rfl Try.call42 rfl (nil_each _ _ _ _ _) ?_
  rintro v1_4 w1_4 ⟨rfl, hy⟩
  replace hs := hs.call hy
  clear hy
  try simp only [List.cons_append, List.nil_append, List.append_nil] at hs
  refine Z.lb 4 rfl ?_
  refine Z.lnil ?_
  refine Z.only [4, 5] rfl ?_
  refine Z.nthen ?_
  refine Z.ret ?_
  -- ret#0
  refine Z.out2 (by exact ⟨rfl, rfl, trivial⟩) ?_
  first | exact ⟨_, rfl, rfl, hs⟩ | exact ⟨_, rfl, rfl, hs.sub (List.nil_sublist _)⟩
end Go.Proofs.Ytggikablbdhniaa
