/- Part 5 of the proofs that lead to the statement. -/
import Derived.Test.YtcieclifabbkjaaY4
/- Status reports: the examples hold. -/
namespace Go.Proofs.Ytcieclifabbkjaa
open Go.RowKit
set_option linter.unusedSimpArgs false
set_option linter.unusedVariables false
--newlaws

def ex1 : NkV := ⟨3, false, 0, 0⟩
def ex2 : NkV := ⟨4, true, 2, 9⟩
theorem by8 {l : List Int} (h : l.all (fun x => decide (0 ≤ x ∧ x < 256)) = true) : ∀ x ∈ l, 0 ≤ x ∧ x < 256 := fun x hx => by simpa using List.all_eq_true.1 h x hx
theorem sl_nil {w : World} {A : Option Addr} : Sl w A [] := fun h => absurd h (by decide)
set_option maxHeartbeats 1000000 in
set_option maxRecDepth 100000 in
theorem works34 (w : World) : Calls Try.prog 9 #[] w (SX.Ret fun v w' => v = .bool true ∧ SX.St w [] w' []) := by
  have hs := SX.St.start w
  have v1 : vldB 5 [] = true := by decide +kernel
  have v2 : vldB 5 [ex1, ex2] = true := by decide +kernel
  have e1 : encE 5 [] = 0 := by decide +kernel
  have e2 : encE 5 [ex1, ex2] = 0 := by decide +kernel
  have l1 : encL 5 [] = [0, 20] := by decide +kernel
  have l2 : encL 5 [ex1, ex2] = [0, 22, 1, 192, 34, 0, 8, 0, 72] := by decide +kernel
  have f1 : fitK [ex1, ex2] 5 4 = (4, 1) := by decide +kernel
  have s1 : sizeV 5 [ex1, ex2] = 9 := by decide +kernel
  have d1 : decE [0] = 5 := by decide +kernel
  have d2 : decE [128, 20] = 9 := by decide +kernel
  have d3 : decE [0, 21] = 9 := by decide +kernel
  refine Z.enter Try.func9 rfl Try.ntmps9 rfl rfl ?_
  refine Z.seq ?_
  refine Z.region ?_
  refine Z.lb 1 rfl ?_
  refine Z.lnil ?_
  refine Z.only [] rfl ?_
  refine Z.nthen ?_
  refine Z.seq ?_
  refine Z.region ?_
  refine Z.l rfl rfl (by rfl) (Z.keepS hs) (Z.Yd.buildL [(0, 1), (1, 1)] [.int .i64 0, .slice none 0 0] rfl rfl (by intro w; kernel_rfl)) ?_
  refine Z.le rfl trivial ?_
  refine Z.ZO.call rfl rfl (by rfl) rfl rfl Try.call10 rfl (encode_any 5 none 0 0 [] _ sl_nil rfl (by decide)) ?_
  rintro v1_1 w1_1 ⟨B1, c1, co1, rfl, hy⟩
  replace hs := hs.call hy
  clear hy
  try simp only [List.cons_append, List.nil_append, List.append_nil] at hs
  rw [e1, l1]
  rw [l1] at hs
  refine Z.lb 5 rfl ?_
  refine Z.lnil ?_
  refine Z.only [1, 2] rfl ?_
  refine Z.nthen ?_
  refine Z.seq ?_
  refine Z.region ?_
  refine Z.l rfl rfl (by rfl) (Z.keepS hs) (Z.Yd.buildL [(0, 1), (1, 1), (2, 1), (3, 1)] [.int .i64 0, .bool false, .int .i64 0, .int .i64 0] rfl rfl (by intro w; kernel_rfl)) ?_
  refine Z.l rfl rfl (by rfl) (Z.keepS hs) (Z.Yd.buildL [(0, 1), (1, 1), (2, 1), (3, 1)] [.int .i64 0, .bool false, .int .i64 0, .int .i64 0] rfl rfl (by intro w; kernel_rfl)) ?_
  refine Z.le rfl trivial ?_
  refine Z.ZO.litL (T' := 45) [(0, 4), (4, 4)] [.int .i64 0, .bool false, .int .i64 0, .int .i64 0, .int .i64 0, .bool false, .int .i64 0, .int .i64 0] rfl rfl (by rfl) rfl rfl (by intro W; kernel_rfl) hs ?_
  clear hs; intro g17 w17 hs
  refine Z.l rfl rfl (by rfl) (Z.keepS hs) (Z.Yd.buildL [(0, 1), (1, 1)] [.int .i64 0, .slice none 0 0] rfl rfl (by intro w; kernel_rfl)) ?_
  refine Z.le rfl trivial ?_
  refine Z.ZO.alloc rfl rfl (by rfl) Try.zeroValue24 rfl hs ?_
  clear hs; intro g3 w3 hs
  refine Z.le rfl trivial ?_
  first | refine Z.ZO.storeA rfl rfl hs rfl rfl (by kernel_rfl) (by first | (simp [Value.oneCell']; done) | (refine Z.all_one ?_; assumption)) (by first | exact SX.at0 | exact SX.at1 | exact SX.at2 | exact SX.at3 | exact SX.at4 | exact SX.at5 | exact Z.at6 | exact Z.at7 | exact Z.at8 | exact Z.at9 | exact Z.at10 | exact Z.at11 | exact Z.at12) (by rfl) ?_ | refine Z.ZO.storeP rfl rfl hs rfl rfl (by kernel_rfl) (by first | (simp [Value.oneCell']; done) | (refine Z.all_one ?_; assumption)) (by first | exact SX.at0 | exact SX.at1 | exact SX.at2 | exact SX.at3 | exact SX.at4 | exact SX.at5 | exact Z.at6 | exact Z.at7 | exact Z.at8 | exact Z.at9 | exact Z.at10 | exact Z.at11 | exact Z.at12) (by first | decide | (simp; done) | (simp; omega)) ?_ | refine Z.ZO.storePR rfl rfl hs rfl rfl (by kernel_rfl) (by first | (simp [Value.oneCell']; done) | (refine Z.all_one ?_; assumption)) (by first | exact SX.at0 | exact SX.at1 | exact SX.at2 | exact SX.at3 | exact SX.at4 | exact SX.at5 | exact Z.at6 | exact Z.at7 | exact Z.at8 | exact Z.at9 | exact Z.at10 | exact Z.at11 | exact Z.at12) (by first | decide | (simp; done) | (simp; omega)) ?_
  clear hs; intro ws hs
  simp only [Nat.zero_add, Nat.add_zero, Nat.reduceAdd, Int.reduceToNat, Nat.reduceMul, List.set_cons_zero, List.set_cons_succ, List.setIfInBounds_toArray] at hs
  try simp only [Z.putL, Nat.zero_add] at hs
  refine Z.lnil ?_
  refine Z.only [1, 2, 3] rfl ?_
  refine Z.nthen ?_
  refine Z.seq ?_
  refine Z.region ?_
  refine Z.l rfl rfl (by rfl) (Z.keepS hs) (by first | exact Z.Yd.loadA _ rfl Try.isAgg24 (fun _ => Z.cellsB (by first | ((repeat (first | exact List.mem_cons_self | refine List.mem_cons_of_mem _ ?_ | refine List.mem_append_right _ ?_)); done) | fail)) (by exact Try.sizeOf24) | fail "load 3.0") ?_
  refine Z.le rfl trivial ?_
  refine Z.ZO.call rfl rfl (by rfl) rfl rfl Try.call10 rfl (encode_any 5 (some ⟨g17, 0, none⟩) 2 2 [ex1, ex2] _ (by have h0 := hs.blkSl (g := g17) (by first | ((repeat (first | exact List.mem_cons_self | refine List.mem_cons_of_mem _ ?_ | refine List.mem_append_right _ ?_)); done) | fail); exact h0) rfl (by decide)) ?_
  rintro v3_1 w3_1 ⟨B2, c2, co2, rfl, hy⟩
  replace hs := hs.call hy
  clear hy
  try simp only [List.cons_append, List.nil_append, List.append_nil] at hs
  rw [e2, l2]
  rw [l2] at hs
  refine Z.lb 5 rfl ?_
  refine Z.lnil ?_
  refine Z.only [1, 2, 3, 4, 5] rfl ?_
  refine Z.nthen ?_
  refine Z.seq ?_
  refine Z.region ?_
  refine Z.l rfl rfl (by rfl) (Z.keepS hs) (by first | exact Z.Yd.loadA _ rfl Try.isAgg24 (fun _ => Z.cellsB (by first | ((repeat (first | exact List.mem_cons_self | refine List.mem_cons_of_mem _ ?_ | refine List.mem_append_right _ ?_)); done) | fail)) (by exact Try.sizeOf24) | fail "load 4.0") ?_
  refine Z.le rfl trivial ?_
  refine Z.ZO.call rfl rfl (by rfl) rfl rfl Try.call20 rfl (fit_ok 5 4 (some ⟨g17, 0, none⟩) 2 2 [ex1, ex2] _ (by have h0 := hs.blkSl (g := g17) (by first | ((repeat (first | exact List.mem_cons_self | refine List.mem_cons_of_mem _ ?_ | refine List.mem_append_right _ ?_)); done) | fail); exact h0) rfl (by decide) v2 (by decide)) ?_
  rintro v4_1 w4_1 ⟨B3, co3, c3, rfl, hc3, hy⟩
  replace hs := hs.call hy
  clear hy
  try simp only [List.cons_append, List.nil_append, List.append_nil] at hs
  rw [f1]
  rw [f1] at hc3
  refine Z.lb 3 rfl ?_
  refine Z.le rfl trivial ?_
  refine Z.ZO.alloc rfl rfl (by rfl) Try.zeroValue24 rfl hs ?_
  clear hs; intro g6 w6 hs
  refine Z.le rfl trivial ?_
  first | refine Z.ZO.storeA rfl rfl hs rfl rfl (by kernel_rfl) (by first | (simp [Value.oneCell']; done) | (refine Z.all_one ?_; assumption)) (by first | exact SX.at0 | exact SX.at1 | exact SX.at2 | exact SX.at3 | exact SX.at4 | exact SX.at5 | exact Z.at6 | exact Z.at7 | exact Z.at8 | exact Z.at9 | exact Z.at10 | exact Z.at11 | exact Z.at12) (by rfl) ?_ | refine Z.ZO.storeP rfl rfl hs rfl rfl (by kernel_rfl) (by first | (simp [Value.oneCell']; done) | (refine Z.all_one ?_; assumption)) (by first | exact SX.at0 | exact SX.at1 | exact SX.at2 | exact SX.at3 | exact SX.at4 | exact SX.at5 | exact Z.at6 | exact Z.at7 | exact Z.at8 | exact Z.at9 | exact Z.at10 | exact Z.at11 | exact Z.at12) (by first | decide | (simp; done) | (simp; omega)) ?_ | refine Z.ZO.storePR rfl rfl hs rfl rfl (by kernel_rfl) (by first | (simp [Value.oneCell']; done) | (refine Z.all_one ?_; assumption)) (by first | exact SX.at0 | exact SX.at1 | exact SX.at2 | exact SX.at3 | exact SX.at4 | exact SX.at5 | exact Z.at6 | exact Z.at7 | exact Z.at8 | exact Z.at9 | exact Z.at10 | exact Z.at11 | exact Z.at12) (by first | decide | (simp; done) | (simp; omega)) ?_
  clear hs; intro ws hs
  simp only [Nat.zero_add, Nat.add_zero, Nat.reduceAdd, Int.reduceToNat, Nat.reduceMul, List.set_cons_zero, List.set_cons_succ, List.setIfInBounds_toArray] at hs
  try simp only [Z.putL, Nat.zero_add] at hs
  refine Z.lb 1 rfl ?_
  refine Z.lnil ?_
  refine Z.only [1, 2, 3, 4, 5, 6, 7] rfl ?_
  refine Z.nthen ?_
  refine Z.seq ?_
  refine Z.region ?_
  refine Z.l rfl rfl (by rfl) (Z.keepS hs) (by first | exact Z.Yd.loadA _ rfl Try.isAgg24 (fun _ => Z.cellsB (by first | ((repeat (first | exact List.mem_cons_self | refine List.mem_cons_of_mem _ ?_ | refine List.mem_append_right _ ?_)); done) | fail)) (by exact Try.sizeOf24) | fail "load 5.0") ?_
  refine Z.le rfl trivial ?_
  refine Z.ZO.call rfl rfl (by rfl) rfl rfl Try.call20 rfl (fit_short 5 1 (some ⟨g17, 0, none⟩) 2 2 [ex1, ex2] _ (by have h0 := hs.blkSl (g := g17) (by first | ((repeat (first | exact List.mem_cons_self | refine List.mem_cons_of_mem _ ?_ | refine List.mem_append_right _ ?_)); done) | fail); exact h0) rfl (by decide) v2 (by decide)) ?_
  rintro v5_1 w5_1 ⟨rfl, hy⟩
  replace hs := hs.call hy
  clear hy
  try simp only [List.cons_append, List.nil_append, List.append_nil] at hs
  refine Z.lb 3 rfl ?_
  refine Z.le rfl trivial ?_
  refine Z.ZO.alloc rfl rfl (by rfl) Try.zeroValue24 rfl hs ?_
  clear hs; intro g8 w8 hs
  refine Z.le rfl trivial ?_
  first | refine Z.ZO.storeA rfl rfl hs rfl rfl (by kernel_rfl) (by first | (simp [Value.oneCell']; done) | (refine Z.all_one ?_; assumption)) (by first | exact SX.at0 | exact SX.at1 | exact SX.at2 | exact SX.at3 | exact SX.at4 | exact SX.at5 | exact Z.at6 | exact Z.at7 | exact Z.at8 | exact Z.at9 | exact Z.at10 | exact Z.at11 | exact Z.at12) (by rfl) ?_ | refine Z.ZO.storeP rfl rfl hs rfl rfl (by kernel_rfl) (by first | (simp [Value.oneCell']; done) | (refine Z.all_one ?_; assumption)) (by first | exact SX.at0 | exact SX.at1 | exact SX.at2 | exact SX.at3 | exact SX.at4 | exact SX.at5 | exact Z.at6 | exact Z.at7 | exact Z.at8 | exact Z.at9 | exact Z.at10 | exact Z.at11 | exact Z.at12) (by first | decide | (simp; done) | (simp; omega)) ?_ | refine Z.ZO.storePR rfl rfl hs rfl rfl (by kernel_rfl) (by first | (simp [Value.oneCell']; done) | (refine Z.all_one ?_; assumption)) (by first | exact SX.at0 | exact SX.at1 | exact SX.at2 | exact SX.at3 | exact SX.at4 | exact SX.at5 | exact Z.at6 | exact Z.at7 | exact Z.at8 | exact Z.at9 | exact Z.at10 | exact Z.at11 | exact Z.at12) (by first | decide | (simp; done) | (simp; omega)) ?_
  clear hs; intro ws hs
  simp only [Nat.zero_add, Nat.add_zero, Nat.reduceAdd, Int.reduceToNat, Nat.reduceMul, List.set_cons_zero, List.set_cons_succ, List.setIfInBounds_toArray] at hs
  try simp only [Z.putL, Nat.zero_add] at hs
  refine Z.lb 1 rfl ?_
  refine Z.lnil ?_
  refine Z.only [1, 2, 3, 4, 5, 6, 7, 9] rfl ?_
  refine Z.nthen ?_
  refine Z.seq ?_
  refine Z.region ?_
  refine Z.lb 1 rfl ?_
  refine Z.le rfl trivial ?_
  refine Z.ZO.call rfl rfl (by rfl) rfl rfl Try.call13 rfl (num34 _ _) ?_
  rintro v6_1 w6_1 ⟨rfl, hy⟩
  replace hs := hs.call hy
  clear hy
  try simp only [List.cons_append, List.nil_append, List.append_nil] at hs
  refine Z.lb 1 rfl ?_
  refine Z.le rfl trivial ?_
  refine Z.ZO.call rfl rfl (by rfl) rfl rfl Try.call13 rfl (num34 _ _) ?_
  rintro v6_3 w6_3 ⟨rfl, hy⟩
  replace hs := hs.call hy
  clear hy
  try simp only [List.cons_append, List.nil_append, List.append_nil] at hs
  refine Z.l rfl rfl (by rfl) (Z.keepS hs) (Z.Yd.add rfl rfl (fun hG => Z.wi64 (by first | omega | (have hG' := Z.gh rfl hG; simp at hG'; omega)))) ?_
  refine Z.lb 1 rfl ?_
  refine Z.le rfl trivial ?_
  refine Z.ZO.call rfl rfl (by rfl) rfl rfl Try.call13 rfl (num34 _ _) ?_
  rintro v6_6 w6_6 ⟨rfl, hy⟩
  replace hs := hs.call hy
  clear hy
  try simp only [List.cons_append, List.nil_append, List.append_nil] at hs
  refine Z.l rfl rfl (by rfl) (Z.keepS hs) (Z.Yd.add rfl rfl (fun hG => Z.wi64 (by first | omega | (have hG' := Z.gh rfl hG; simp at hG'; omega)))) ?_
  refine Z.lb 2 rfl ?_
  refine Z.yes (s := 43) (b := true) rfl ((by simp)) rfl ?_
  refine Z.lb 1 rfl ?_
  refine Z.yes (s := 43) (b := true) rfl rfl rfl ?_
  refine Z.le rfl (by exact ⟨rfl, trivial⟩) ?_
  refine Z.ZO.litL (T' := 5) [(0, 1), (1, 1)] [.int .u8 0, .int .u8 0] rfl rfl (by rfl) rfl rfl (by intro W; kernel_rfl) hs ?_
  clear hs; intro g45 w45 hs
  refine Z.le rfl (by exact ⟨rfl, trivial⟩) ?_
  refine Z.ZO.call rfl rfl (by rfl) rfl rfl Try.call12 rfl (same34 B1 _ _ _ _ _ [0, 20] [0, 20] _ (hs.slm (by first | ((repeat (first | exact List.mem_cons_self | refine List.mem_cons_of_mem _ ?_ | refine List.mem_append_right _ ?_)); done) | fail)) (by have h0 := hs.blkSl (List.mem_cons_self); exact h0) rfl rfl (by8 (by decide)) (by8 (by decide))) ?_
  rintro v6_12 w6_12 ⟨rfl, hy⟩
  replace hs := hs.call hy
  clear hy
  try simp only [List.cons_append, List.nil_append, List.append_nil] at hs
  refine Z.l rfl rfl (by rfl) (Z.keepS hs) (Z.Yd.pickT rfl rfl) ?_
  refine Z.lb 1 rfl ?_
  refine Z.yes (s := 48) (b := true) rfl ((by simp)) rfl ?_
  refine Z.lb 1 rfl ?_
  refine Z.yes (s := 48) (b := true) rfl rfl rfl ?_
  refine Z.le rfl (by exact ⟨rfl, trivial⟩) ?_
  refine Z.ZO.litL (T' := 5) [(0, 1), (1, 1), (2, 1), (3, 1), (4, 1), (5, 1), (6, 1), (7, 1), (8, 1)] [.int .u8 0, .int .u8 0, .int .u8 0, .int .u8 0, .int .u8 0, .int .u8 0, .int .u8 0, .int .u8 0, .int .u8 0] rfl rfl (by rfl) rfl rfl (by intro W; kernel_rfl) hs ?_
  clear hs; intro g50 w50 hs
  refine Z.le rfl (by exact ⟨rfl, trivial⟩) ?_
  refine Z.ZO.call rfl rfl (by rfl) rfl rfl Try.call12 rfl (same34 B2 _ _ _ _ _ [0, 22, 1, 192, 34, 0, 8, 0, 72] [0, 22, 1, 192, 34, 0, 8, 0, 72] _ (hs.slm (by first | ((repeat (first | exact List.mem_cons_self | refine List.mem_cons_of_mem _ ?_ | refine List.mem_append_right _ ?_)); done) | fail)) (by have h0 := hs.blkSl (List.mem_cons_self); exact h0) rfl rfl (by8 (by decide)) (by8 (by decide))) ?_
  rintro v6_17 w6_17 ⟨rfl, hy⟩
  replace hs := hs.call hy
  clear hy
  try simp only [List.cons_append, List.nil_append, List.append_nil] at hs
  refine Z.l rfl rfl (by rfl) (Z.keepS hs) (Z.Yd.pickT rfl rfl) ?_
  refine Z.lb 1 rfl ?_
  refine Z.yes (s := 53) (b := true) rfl ((by simp)) rfl ?_
  refine Z.l rfl rfl (by rfl) (Z.keepS hs) (by first | exact Z.Yd.loadA _ rfl Try.isAgg24 (fun _ => Z.cellsB (by first | ((repeat (first | exact List.mem_cons_self | refine List.mem_cons_of_mem _ ?_ | refine List.mem_append_right _ ?_)); done) | fail)) (by exact Try.sizeOf24) | fail "load 6.20") ?_
  refine Z.yes (s := 53) (b := true) rfl rfl rfl ?_
  refine Z.le rfl (by exact ⟨rfl, trivial⟩) ?_
  refine Z.ZO.call rfl rfl (by rfl) rfl rfl Try.call16 rfl (Size_any 5 (some ⟨g17, 0, none⟩) 2 2 [ex1, ex2] _ (by have h0 := hs.blkSl (g := g17) (by first | ((repeat (first | exact List.mem_cons_self | refine List.mem_cons_of_mem _ ?_ | refine List.mem_append_right _ ?_)); done) | fail); exact h0) rfl (by decide)) ?_
  rintro v6_21 w6_21 ⟨rfl, hy⟩
  replace hs := hs.call hy
  clear hy
  try simp only [List.cons_append, List.nil_append, List.append_nil] at hs
  rw [s1]
  refine Z.lb 1 rfl ?_
  refine Z.yes (s := 53) (b := true) rfl rfl rfl ?_
  refine Z.l rfl rfl (by rfl) (Z.keepS hs) (Z.Yd.pickT rfl rfl) ?_
  refine Z.lb 1 rfl ?_
  refine Z.yes (s := 58) (b := true) rfl ((by simp)) rfl ?_
  refine Z.l rfl rfl (by rfl) (Z.keepS hs) (by first | exact Z.Yd.loadA _ rfl Try.isAgg24 (fun _ => Z.cellsB (by first | ((repeat (first | exact List.mem_cons_self | refine List.mem_cons_of_mem _ ?_ | refine List.mem_append_right _ ?_)); done) | fail)) (by exact Try.sizeOf24) | fail "load 6.25") ?_
  refine Z.l rfl rfl (by rfl) (Z.keepS hs) (Z.Yd.buildL [(0, 1), (1, 1), (2, 1), (3, 1)] [.int .i64 0, .bool false, .int .i64 0, .int .i64 0] rfl rfl (by intro w; kernel_rfl)) ?_
  refine Z.yes (s := 58) (b := true) rfl rfl rfl ?_
  refine Z.le rfl (by exact ⟨rfl, trivial⟩) ?_
  refine Z.ZO.litL (T' := 45) [(0, 4)] [.int .i64 0, .bool false, .int .i64 0, .int .i64 0] rfl rfl (by rfl) rfl rfl (by intro W; kernel_rfl) hs ?_
  clear hs; intro g61 w61 hs
  refine Z.l rfl rfl (by rfl) (Z.keepS hs) (Z.Yd.buildL [(0, 1), (1, 1)] [.int .i64 0, .slice none 0 0] rfl rfl (by intro w; kernel_rfl)) ?_
  refine Z.yes (s := 58) (b := true) rfl rfl rfl ?_
  refine Z.le rfl (by exact ⟨rfl, trivial⟩) ?_
  refine Z.ZO.call rfl rfl (by rfl) rfl rfl Try.call19 rfl (rsame34 4 4 B3 _ 1 _ 1 1 [ex1] [ex1] _ (Sl.pre (hs.slm (A := B3) (by first | ((repeat (first | exact List.mem_cons_self | refine List.mem_cons_of_mem _ ?_ | refine List.mem_append_right _ ?_)); done) | fail)) (nk_pre [ex1, ex2] 1)) (by have h0 := hs.blkSl (List.mem_cons_self); exact h0) rfl rfl (by decide)) ?_
  rintro v6_29 w6_29 ⟨rfl, hy⟩
  replace hs := hs.call hy
  clear hy
  try simp only [List.cons_append, List.nil_append, List.append_nil] at hs
  refine Z.l rfl rfl (by rfl) (Z.keepS hs) (Z.Yd.pickT rfl rfl) ?_
  refine Z.lb 1 rfl ?_
  refine Z.yes (s := 65) (b := true) rfl ((by simp)) rfl ?_
  refine Z.lb 2 rfl ?_
  refine Z.yes (s := 65) (b := true) rfl rfl rfl ?_
  refine Z.l rfl rfl (by rfl) (Z.keepS hs) (Z.Yd.pickT rfl rfl) ?_
  refine Z.lb 1 rfl ?_
  refine Z.yes (s := 69) (b := true) rfl ((by simp)) rfl ?_
  refine Z.le rfl (by exact ⟨rfl, trivial⟩) ?_
  refine Z.ZO.litL (T' := 5) [(0, 1)] [.int .u8 0] rfl rfl (by rfl) rfl rfl (by intro W; kernel_rfl) hs ?_
  clear hs; intro g70 w70 hs
  refine Z.le rfl (by exact ⟨rfl, trivial⟩) ?_
  refine Z.ZO.call rfl rfl (by rfl) rfl rfl Try.call26 rfl (fails34 5 _ 1 1 [0] _ (by have h0 := hs.blkSl (List.mem_cons_self); exact h0) rfl (by decide) (by8 (by decide)) d1 (by decide)) ?_
  rintro v6_37 w6_37 ⟨rfl, hy⟩
  replace hs := hs.call hy
  clear hy
  try simp only [List.cons_append, List.nil_append, List.append_nil] at hs
  refine Z.l rfl rfl (by rfl) (Z.keepS hs) (Z.Yd.pickT rfl rfl) ?_
  refine Z.lb 1 rfl ?_
  refine Z.yes (s := 73) (b := true) rfl ((by simp)) rfl ?_
  refine Z.le rfl (by exact ⟨rfl, trivial⟩) ?_
  refine Z.ZO.litL (T' := 5) [(0, 1), (1, 1)] [.int .u8 0, .int .u8 0] rfl rfl (by rfl) rfl rfl (by intro W; kernel_rfl) hs ?_
  clear hs; intro g74 w74 hs
  refine Z.le rfl (by exact ⟨rfl, trivial⟩) ?_
  refine Z.ZO.call rfl rfl (by rfl) rfl rfl Try.call26 rfl (fails34 9 _ 2 2 [128, 20] _ (by have h0 := hs.blkSl (List.mem_cons_self); exact h0) rfl (by decide) (by8 (by decide)) d2 (by decide)) ?_
  rintro v6_41 w6_41 ⟨rfl, hy⟩
  replace hs := hs.call hy
  clear hy
  try simp only [List.cons_append, List.nil_append, List.append_nil] at hs
  refine Z.l rfl rfl (by rfl) (Z.keepS hs) (Z.Yd.pickT rfl rfl) ?_
  refine Z.lb 1 rfl ?_
  refine Z.yes (s := 77) (b := true) rfl ((by simp)) rfl ?_
  refine Z.le rfl (by exact ⟨rfl, trivial⟩) ?_
  refine Z.ZO.litL (T' := 5) [(0, 1), (1, 1)] [.int .u8 0, .int .u8 0] rfl rfl (by rfl) rfl rfl (by intro W; kernel_rfl) hs ?_
  clear hs; intro g78 w78 hs
  refine Z.le rfl (by exact ⟨rfl, trivial⟩) ?_
  refine Z.ZO.call rfl rfl (by rfl) rfl rfl Try.call26 rfl (fails34 9 _ 2 2 [0, 21] _ (by have h0 := hs.blkSl (List.mem_cons_self); exact h0) rfl (by decide) (by8 (by decide)) d3 (by decide)) ?_
  rintro v6_45 w6_45 ⟨rfl, hy⟩
  replace hs := hs.call hy
  clear hy
  try simp only [List.cons_append, List.nil_append, List.append_nil] at hs
  refine Z.l rfl rfl (by rfl) (Z.keepS hs) (Z.Yd.pickT rfl rfl) ?_
  refine Z.lb 1 rfl ?_
  refine Z.lnil ?_
  refine Z.only [0] rfl ?_
  refine Z.nthen ?_
  refine Z.ret ?_
  -- ret#0
  refine Z.out1 (by exact ⟨rfl, trivial⟩) ?_
  first | exact ⟨_, rfl, rfl, hs⟩ | exact ⟨_, rfl, rfl, hs.sub (List.nil_sublist _)⟩
end Go.Proofs.Ytcieclifabbkjaa

/- Status reports: Encode against the document. -/
namespace Go.Proofs.Ytcieclifabbkjaa
open Go.RowKit
set_option linter.unusedSimpArgs false
set_option linter.unusedVariables false
--newlaws

theorem encL_by (ack : Int) (l : List NkV) : ∀ x ∈ encL ack l, 0 ≤ x ∧ x < 256 := by
  unfold encL
  split
  · exact pk_bytes
  · intro x hx; cases hx
theorem encL_size (ack : Int) (l : List NkV) : (if encE ack l = 0 then ((encL ack l).length : Int) else 0) = sizeV ack l := by
  unfold encE encL sizeV
  by_cases hv : vldB ack l = true
  · rw [if_pos hv, if_pos hv, if_pos hv, if_pos rfl, pk_length, encS_len]
  · rw [if_neg hv, if_neg hv, if_neg hv, if_neg (by decide)]
theorem rd_nack {W : World} {cs : List Value} (z : Rd Try.prog W 45 cs) : ∃ x : NkV, cs = x.cells ∧ True := by
  obtain ⟨hl, hf⟩ := Rd.field Try.underlying45 z
  have c4 : Try.prog.cellsOf 45 = 4 := by kernel_rfl
  have c1 : Try.prog.cellsOf 3 = 1 := by kernel_rfl
  have cb : Try.prog.cellsOf 4 = 1 := by kernel_rfl
  rw [c4] at hl
  obtain ⟨x0, x1, x2, x3, rfl⟩ := list4 hl
  obtain ⟨a, ha, -⟩ := Rd.int Try.underlying3 (hf 0 _ rfl)
  obtain ⟨b, hb⟩ := Rd.bool Try.underlying4 (hf 1 _ rfl)
  obtain ⟨p, hp, -⟩ := Rd.int Try.underlying3 (hf 2 _ rfl)
  obtain ⟨q, hq, -⟩ := Rd.int Try.underlying3 (hf 3 _ rfl)
  simp [c1, cb] at ha hb hp hq
  subst ha hb hp hq
  exact ⟨⟨a, b, p, q⟩, rfl, trivial⟩
theorem rd_nacks {W : World} {A : Option Addr} {n c : Nat} (z : Rd Try.prog W 22 [.slice A n c]) : ∃ l : List NkV, l.length = n ∧ n ≤ c ∧ c ≤ maxLen ∧ Sl W A (l.flatMap NkV.cells) := by
  have c4 : Try.prog.cellsOf 45 = 4 := by kernel_rfl
  obtain ⟨xs, h1, h2, h3, h4, h5⟩ := Rd.rows NkV.cells (fun _ => True) Try.underlying22 (by rw [c4]; decide) (fun r hr => rd_nack hr) (fun x => c4.symm) z
  exact ⟨xs, h1, h2, h3, h5⟩
theorem rd_status {W : World} {cs : List Value} (z : Rd Try.prog W 24 cs) : ∃ (ack : Int) (A : Option Addr) (n c : Nat) (l : List NkV), cs = [.int .i64 ack, .slice A n c] ∧ l.length = n ∧ n ≤ c ∧ c ≤ maxLen ∧ Sl W A (l.flatMap NkV.cells) := by
  obtain ⟨hl, hf⟩ := Rd.field Try.underlying24 z
  have c2 : Try.prog.cellsOf 24 = 2 := by kernel_rfl
  have c1 : Try.prog.cellsOf 3 = 1 := by kernel_rfl
  have c0 : Try.prog.cellsOf 22 = 1 := by kernel_rfl
  rw [c2] at hl
  obtain ⟨x0, x1, rfl⟩ := list2 hl
  obtain ⟨ack, hlc, -⟩ := Rd.int Try.underlying3 (hf 0 _ rfl)
  have zb := hf 1 _ rfl
  obtain ⟨A, n, c, hb⟩ := Rd.sliceV Try.underlying22 zb
  rw [hb] at zb
  simp [c1, c0] at hlc hb
  subst hlc hb
  obtain ⟨l, h1, h2, h3, h4⟩ := rd_nacks zb
  exact ⟨ack, A, n, c, l, rfl, h1, h2, h3, h4⟩
end Go.Proofs.Ytcieclifabbkjaa

/- Status reports: Decode against the document. -/
namespace Go.Proofs.Ytcieclifabbkjaa
open Go.RowKit
set_option linter.unusedSimpArgs false
set_option linter.unusedVariables false
--newlaws

theorem decL_len (l : List Int) : (decL l).length ≤ 512 := by
  have h : ∀ (f a : Nat) (acc : List NkV) (more : Bool) (ack : Int), acc.length ≤ 512 → (decGo l ack f a acc more).2.length ≤ 512 := by
    intro f
    induction f with
    | zero => intro a acc more ack h; simp [decGo]
    | succ f ih =>
      intro a acc more ack h
      unfold decGo
      split
      · split
        · exact h
        · simp
      · split
        · simp
        · split
          · rename_i hok
            refine ih _ _ _ _ ?_
            unfold okNext at hok
            simp only [Bool.and_eq_true, decide_eq_true_eq] at hok
            simp
            omega
          · simp
  unfold decL
  split
  · exact h _ _ _ _ _ (by simp)
  · simp
end Go.Proofs.Ytcieclifabbkjaa

/- Status reports: Fit against the document. -/
namespace Go.Proofs.Ytcieclifabbkjaa
open Go.RowKit
set_option linter.unusedSimpArgs false
set_option linter.unusedVariables false
--newlaws

end Go.Proofs.Ytcieclifabbkjaa

/- Status reports: decoding undoes encoding, and the other way round (plain facts). -/
namespace Go.Proofs.Ytcieclifabbkjaa
open Go.RowKit
set_option linter.unusedSimpArgs false
set_option linter.unusedVariables false

theorem unb_inj {l m : List Int} (hl : ∀ x ∈ l, 0 ≤ x ∧ x < 256) (hm : ∀ x ∈ m, 0 ≤ x ∧ x < 256) (h : unb l = unb m) : l = m := by
  induction l generalizing m with
  | nil =>
    cases m with
    | nil => rfl
    | cons y m =>
      have := congrArg List.length h
      rw [unb_length, unb_length] at this
      simp at this
  | cons x l ih =>
    cases m with
    | nil =>
      have := congrArg List.length h
      rw [unb_length, unb_length] at this
      simp at this
    | cons y m =>
      have e : fld x.toNat 8 ++ unb l = fld y.toNat 8 ++ unb m := h
      have h1 := List.append_inj_left e (by rw [fld_length, fld_length])
      have h2 := List.append_inj_right e (by rw [fld_length, fld_length])
      have hx := hl x (by simp)
      have hy := hm y (by simp)
      have h3 := congrArg val h1
      rw [val_fld, val_fld] at h3
      have hxy : x = y := by
        have e1 : x.toNat % 2 ^ 8 = x.toNat := Nat.mod_eq_of_lt (by show x.toNat < 256; omega)
        have e2 : y.toNat % 2 ^ 8 = y.toNat := Nat.mod_eq_of_lt (by show y.toNat < 256; omega)
        omega
      rw [hxy, ih (fun z hz => hl z (by simp [hz])) (fun z hz => hm z (by simp [hz])) h2]
theorem fld_val : ∀ (bs : List Bool), fld (val bs) bs.length = bs := by
  have inj : ∀ (a b : List Bool), a.length = b.length → val a = val b → a = b := by
    intro a
    induction a with
    | nil => intro b h _; cases b <;> simp_all
    | cons x a ih =>
      intro b h hv
      cases b with
      | nil => simp at h
      | cons y b =>
        simp only [List.length_cons, Nat.add_right_cancel_iff] at h
        have e1 : val (x :: a) = val [x] * 2 ^ a.length + val a := val_app [x] a
        have e2 : val (y :: b) = val [y] * 2 ^ b.length + val b := val_app [y] b
        have e3 : ∀ z : Bool, val [z] = z.toNat := fun z => by simp [val]
        rw [e1, e2, e3, e3, h] at hv
        have ha := val_lt a
        have hb := val_lt b
        rw [h] at ha
        cases x <;> cases y <;> simp at hv ⊢
        · exact ih b h hv
        · omega
        · omega
        · exact ih b h hv
  intro bs
  refine inj _ _ (fld_length _ _) ?_
  rw [val_fld, Nat.mod_eq_of_lt (val_lt bs)]
/-- a field at bit a, seen -/
theorem gv_fld {l : List Int} {a w v : Nat} {R : List Bool} (hd : (unb l).drop a = fld v w ++ R) (hv : v < 2 ^ w) : gv l a w = (v : Int) ∧ (unb l).drop (a + w) = R := by
  refine ⟨?_, by rw [← List.drop_drop, hd, List.drop_left' (fld_length _ _)]⟩
  unfold gv bitsAt
  rw [hd, List.take_left' (fld_length _ _), val_fld, Nat.mod_eq_of_lt hv]
/-- .. and said -/
theorem fld_gv {l : List Int} {a w : Nat} (h : a + w ≤ 8 * l.length) : (unb l).drop a = fld (gv l a w).toNat w ++ (unb l).drop (a + w) := by
  have hl := bitsAt_length (l := l) (a := a) (n := w) (by omega)
  have e : fld (gv l a w).toNat w = bitsAt l a w := by
    have := fld_val (bitsAt l a w)
    rw [hl] at this
    unfold gv
    rw [Int.toNat_natCast]
    exact this
  rw [e, ← List.drop_drop]
  unfold bitsAt
  exact (List.take_append_drop _ _).symm
theorem gvF {l : List Int} {a w : Nat} {v : Int} {R : List Bool} (hd : (unb l).drop a = fldF (v, (w : Int)) ++ R) (h0 : 0 ≤ v) (hv : v < ((2 ^ w : Nat) : Int)) : gv l a w = v ∧ (unb l).drop (a + w) = R := by
  obtain ⟨n, rfl⟩ := Int.eq_ofNat_of_zero_le h0
  exact gv_fld (v := n) hd (by omega)
theorem b2_dec (b : Bool) : (b2 b == 1) = b := by cases b <;> rfl
theorem entB_app (more : Bool) (n : NkV) (R : List Bool) : entB more n ++ R = fldF (n.sn, 10) ++ (fldF (b2 more, 1) ++ (fldF (b2 n.part, 1) ++ ((if n.part = true then fldF (n.lo, 15) ++ fldF (n.hi, 15) else []) ++ R))) := by
  unfold entB nkF ptF
  cases n.part <;> simp
theorem alone_bd {ack : Int} {n : NkV} (h : alone ack n) : (0 ≤ n.sn ∧ n.sn < 1024) ∧ (0 ≤ n.lo ∧ n.lo < 32768) ∧ (0 ≤ n.hi ∧ n.hi < 32768) ∧ (n.part = false → n.lo = 0 ∧ n.hi = 0) := by
  obtain ⟨h1, -, h3⟩ := h
  split at h3
  · rename_i hp; refine ⟨h1, by omega, by omega, fun h => by rw [hp] at h; cases h⟩
  · refine ⟨h1, by omega, by omega, fun _ => h3⟩
theorem nk_read {l : List Int} {a : Nat} {ack : Int} {n : NkV} {more : Bool} {R : List Bool} (hd : (unb l).drop a = entB more n ++ R) (ha : a ≤ 8 * l.length) (hn : alone ack n) :
    nkE l a = 0 ∧ nkAt l a = n ∧ moreAt l a = more ∧ (unb l).drop (nkA l a) = R := by
  obtain ⟨b1, b2', b3, b4⟩ := alone_bd hn
  have hlen := congrArg List.length hd
  rw [List.length_drop, unb_length, List.length_append, entB_len] at hlen
  rw [entB_app] at hd
  obtain ⟨g1, hd⟩ := gvF (w := 10) hd b1.1 b1.2
  obtain ⟨g2, hd⟩ := gvF (w := 1) hd (b2_lt more).1 (b2_lt more).2
  obtain ⟨g3, hd⟩ := gvF (w := 1) hd (b2_lt n.part).1 (b2_lt n.part).2
  have hp : partAt l a = n.part := by unfold partAt; rw [show a + 11 = a + 10 + 1 from rfl, g3, b2_dec]
  have hm : moreAt l a = more := by unfold moreAt; rw [g2, b2_dec]
  cases hnp : n.part with
  | true =>
    rw [hnp] at hd hp
    rw [if_pos rfl, List.append_assoc] at hd
    obtain ⟨g4, hd⟩ := gvF (w := 15) hd b2'.1 b2'.2
    obtain ⟨g5, hd⟩ := gvF (w := 15) hd b3.1 b3.2
    have e : nkSz n = 42 := by unfold nkSz; rw [if_pos hnp]
    have en : nkAt l a = n := by
      unfold nkAt
      rw [hp, if_pos rfl, if_pos rfl]
      rw [show a + 12 = a + 10 + 1 + 1 from rfl, show a + 27 = a + 10 + 1 + 1 + 15 from rfl, g1, g4, g5, ← hnp]
    refine ⟨?_, en, hm, ?_⟩
    · unfold nkE; rw [if_pos (by omega), if_pos hp, if_pos (by omega)]
    · unfold nkA; rw [en, e]; exact hd
  | false =>
    rw [hnp] at hd hp
    rw [if_neg (by decide), List.nil_append] at hd
    have e : nkSz n = 12 := by unfold nkSz; rw [if_neg (by rw [hnp]; decide)]
    have en : nkAt l a = n := by
      obtain ⟨h1, h2⟩ := b4 hnp
      unfold nkAt
      rw [hp, if_neg (by decide), if_neg (by decide), g1, ← hnp]
      cases n; simp_all
    refine ⟨?_, en, hm, ?_⟩
    · unfold nkE; rw [if_pos (by omega), if_neg (by rw [hp]; decide)]
    · unfold nkA; rw [en, e]; exact hd
theorem zeros_end {l : List Int} {a k : Nat} (hd : (unb l).drop a = List.replicate k false) (hk : k < 8) (ha : a ≤ 8 * l.length) : endE l a = 0 := by
  have hlen := congrArg List.length hd
  rw [List.length_drop, unb_length, List.length_replicate] at hlen
  unfold endE alE bitsAt
  rw [if_neg (by omega), hd, List.take_replicate, val_zero, if_pos rfl]
theorem okNext_of {ack : Int} {acc r : List NkV} {n : NkV} (hv : vldB ack (acc ++ n :: r) = true) : okNext ack acc n = true := by
  obtain ⟨-, h512, hst⟩ := vldB_len hv
  have hs := hst acc.length (by simp)
  have hat : (acc ++ n :: r)[acc.length]? = some n := by simp
  unfold stepB at hs
  rw [hat] at hs
  simp only [Bool.and_eq_true, decide_eq_true_eq] at hs
  have h5 : acc.length < 512 := by simp at h512; omega
  by_cases h0 : acc.length = 0
  · exact okT1 h5 hs.1 h0
  · obtain ⟨p, hp⟩ := last_at h0
    have hp2 : (acc ++ n :: r)[acc.length - 1]? = some p := by rw [List.getElem?_append_left (by omega)]; exact hp
    have h2 := hs.2
    rw [if_neg h0, hp2] at h2
    exact okT2 h5 hs.1 h0 hp (by simpa using h2)
theorem decGo_enc {l : List Int} {ack : Int} {k : Nat} (hk : k < 8) : ∀ (rest acc : List NkV) (f a : Nat), rest.length < f → a ≤ 8 * l.length → (unb l).drop a = entsB rest ++ List.replicate k false → vldB ack (acc ++ rest) = true →
    decGo l ack f a acc (!rest.isEmpty) = (0, acc ++ rest)
  | [], acc, f, a, hf, ha, hd, hv => by
    obtain ⟨f, rfl⟩ : ∃ f', f = f' + 1 := ⟨f - 1, by omega⟩
    unfold decGo
    rw [if_pos (show (!([] : List NkV).isEmpty) = false from rfl), if_pos (zeros_end (by simpa [entsB] using hd) hk ha), List.append_nil]
  | n :: r, acc, f, a, hf, ha, hd, hv => by
    obtain ⟨f, rfl⟩ : ∃ f', f = f' + 1 := ⟨f - 1, by omega⟩
    have hal : alone ack n := vldB_alone hv (k := acc.length) (by simp)
    rw [entsB, List.append_assoc] at hd
    obtain ⟨h1, h2, h3, h4⟩ := nk_read hd ha hal
    have h5 := (nkA_ok h1).2
    have ih := decGo_enc (l := l) (ack := ack) hk r (acc ++ [n]) f (nkA l a) (by simp at hf; omega) h5 h4 (by rw [List.append_assoc]; exact hv)
    unfold decGo
    rw [if_neg (by simp), if_neg (by rw [h1]; simp), h2, if_pos (okNext_of hv), h3, ih]
    simp
/-- what was encoded is decoded -/
theorem dec_enc {ack : Int} {ns : List NkV} (hv : vldB ack ns = true) : decE (encL ack ns) = 0 ∧ decA (encL ack ns) = ack ∧ decL (encL ack ns) = ns := by
  have e : encL ack ns = pk (encS ack ns) := if_pos hv
  rw [e]
  obtain ⟨hack, h512, -⟩ := vldB_len hv
  have hlen := encS_len ack ns
  have hpl := pk_length (encS ack ns)
  have hsz : 15 ≤ sizeN ns := by unfold sizeN; omega
  have hsz2 : ns.length + 15 ≤ sizeN ns := by
    unfold sizeN
    have : ns.length ≤ (ns.map nkSz).sum := by
      clear hv h512 hlen hpl hsz e
      induction ns with
      | nil => simp
      | cons x l ih => simp only [List.map_cons, List.sum_cons, List.length_cons]; have : 12 ≤ nkSz x := by unfold nkSz; split <;> omega
                       omega
    omega
  have hu := unb_pk (encS ack ns)
  obtain ⟨k, hk, hz⟩ : ∃ k, k < 8 ∧ pad (encS ack ns) = encS ack ns ++ List.replicate k false := ⟨_, by omega, rfl⟩
  rw [hz] at hu
  have hd : (unb (pk (encS ack ns))).drop 0 = fldF (0, ((4 : Nat) : Int)) ++ (fldF (ack, ((10 : Nat) : Int)) ++ (fldF (b2 (!ns.isEmpty), ((1 : Nat) : Int)) ++ (entsB ns ++ List.replicate k false))) := by
    rw [List.drop_zero, hu]
    simp [encS, hdF]
  obtain ⟨g1, hd⟩ := gvF hd (by omega) (by decide)
  obtain ⟨g2, hd⟩ := gvF hd hack.1 (by show ack < 1024; omega)
  obtain ⟨g3, hd⟩ := gvF hd (b2_lt _).1 (b2_lt _).2
  have hgo := decGo_enc (l := pk (encS ack ns)) (ack := ack) hk ns [] (8 * (pk (encS ack ns)).length + 1) 15 (by omega) (by omega) hd hv
  rw [List.nil_append] at hgo
  have g1' : gv (pk (encS ack ns)) 0 4 = 0 := g1
  have g2' : gv (pk (encS ack ns)) 4 10 = ack := g2
  have g3' : gv (pk (encS ack ns)) 14 1 = b2 (!ns.isEmpty) := g3
  have hE : decE (pk (encS ack ns)) = 0 := by
    unfold decE
    rw [if_pos (by omega), if_pos g1', g2', g3', b2_dec, hgo]
  refine ⟨hE, ?_, ?_⟩
  · unfold decA; rw [if_pos hE, g2']
  · unfold decL; rw [if_pos hE, g2', g3', b2_dec, hgo]
theorem stepB_app {ack : Int} {l r : List NkV} {k : Nat} (hk : k < l.length) : stepB ack (l ++ r) k = stepB ack l k := by
  unfold stepB
  rw [List.getElem?_append_left hk, List.getElem?_append_left (by omega)]
theorem vldB_snoc {ack : Int} {acc : List NkV} {n : NkV} (hv : vldB ack acc = true) (h : okNext ack acc n = true) : vldB ack (acc ++ [n]) = true := by
  obtain ⟨hack, h512, hst⟩ := vldB_len hv
  unfold okNext at h
  simp only [Bool.and_eq_true, decide_eq_true_eq] at h
  obtain ⟨h1, h2, h3⟩ := h
  unfold vldB
  simp only [Bool.and_eq_true, decide_eq_true_eq]
  refine ⟨hack, by simp; omega, List.all_eq_true.2 fun k hk => ?_⟩
  have hk := List.mem_range.1 hk
  rw [List.length_append, List.length_singleton] at hk
  by_cases hkl : k < acc.length
  · rw [stepB_app hkl]; exact hst k hkl
  · obtain rfl : k = acc.length := by omega
    unfold stepB
    rw [List.getElem?_append_right (by omega), Nat.sub_self]
    simp only [List.getElem?_cons_zero, Bool.and_eq_true, decide_eq_true_eq]
    refine ⟨h2, ?_⟩
    by_cases h0 : acc.length = 0
    · rw [if_pos h0]
    · rw [if_neg h0] at h3 ⊢
      rw [List.getElem?_append_left (by omega)]
      exact h3
theorem vldB_nil {ack : Int} (h : 0 ≤ ack ∧ ack ≤ 1023) : vldB ack [] = true := by unfold vldB; rw [decide_eq_true h]; rfl
theorem b2_gv {l : List Int} {a : Nat} : b2 (gv l a 1 == 1) = gv l a 1 := by
  have h := gv_bd l a 1
  simp only [Nat.reducePow] at h
  unfold b2
  by_cases h1 : gv l a 1 = 1
  · rw [h1]; rfl
  · have h0 : gv l a 1 = 0 := by omega
    rw [h0]; rfl
theorem nk_said {l : List Int} {a : Nat} (h : nkE l a = 0) : (unb l).drop a = entB (moreAt l a) (nkAt l a) ++ (unb l).drop (nkA l a) := by
  obtain ⟨-, hA⟩ := nkA_ok h
  have e1 : ∀ x : Int, fldF (x, 10) = fld x.toNat 10 := fun _ => rfl
  have e2 : ∀ x : Int, fldF (x, 1) = fld x.toNat 1 := fun _ => rfl
  have e3 : ∀ x : Int, fldF (x, 15) = fld x.toNat 15 := fun _ => rfl
  have eM : b2 (moreAt l a) = gv l (a + 10) 1 := b2_gv
  have eP : b2 (nkAt l a).part = gv l (a + 11) 1 := b2_gv
  rw [entB_app, e1, e2, e2, eM, eP]
  by_cases hp : partAt l a = true
  · have ez : nkSz (nkAt l a) = 42 := if_pos hp
    have eA : nkA l a = a + 42 := by unfold nkA; rw [ez]
    have ep : (nkAt l a).part = true := hp
    have el : (nkAt l a).lo = gv l (a + 12) 15 := if_pos hp
    have eh : (nkAt l a).hi = gv l (a + 27) 15 := if_pos hp
    rw [eA] at hA
    rw [if_pos ep, e3, e3, el, eh, eA]
    rw [fld_gv (l := l) (a := a) (w := 10) (by omega), fld_gv (l := l) (a := a + 10) (w := 1) (by omega), fld_gv (l := l) (a := a + 10 + 1) (w := 1) (by omega), fld_gv (l := l) (a := a + 10 + 1 + 1) (w := 15) (by omega), fld_gv (l := l) (a := a + 10 + 1 + 1 + 15) (w := 15) (by omega), List.append_assoc]
    rfl
  · have ez : nkSz (nkAt l a) = 12 := if_neg hp
    have eA : nkA l a = a + 12 := by unfold nkA; rw [ez]
    have ep : ¬ (nkAt l a).part = true := hp
    rw [eA] at hA
    rw [if_neg ep, eA]
    rw [fld_gv (l := l) (a := a) (w := 10) (by omega), fld_gv (l := l) (a := a + 10) (w := 1) (by omega), fld_gv (l := l) (a := a + 10 + 1) (w := 1) (by omega)]
    rfl
theorem end_zeros {l : List Int} {a : Nat} (h : endE l a = 0) (ha : a ≤ 8 * l.length) : ∃ k, k < 8 ∧ (unb l).drop a = List.replicate k false := by
  unfold endE at h
  split at h
  · cases h
  · rename_i h8
    unfold alE at h
    split at h
    · rename_i hv
      have hlen : ((unb l).drop a).length = 8 * l.length - a := by rw [List.length_drop, unb_length]; omega
      have hb : bitsAt l a (toByte a) = (unb l).drop a := by
        unfold bitsAt
        rw [List.take_of_length_le]
        rw [hlen]
        unfold toByte
        omega
      rw [hb] at hv
      refine ⟨8 * l.length - a, by omega, ?_⟩
      rw [← hlen]
      have h0 := val_eq_zero.1 hv
      rw [List.countP_eq_zero] at h0
      exact List.eq_replicate_iff.2 ⟨rfl, fun b hb => by have := h0 b hb; simpa using this⟩
    · cases h
theorem decGo_inv {l : List Int} {ack : Int} : ∀ (f a : Nat) (acc : List NkV) (more : Bool) (R : List NkV), decGo l ack f a acc more = (0, R) → 8 * l.length - a < f → a ≤ 8 * l.length → vldB ack acc = true →
    ∃ (rest : List NkV) (k : Nat), R = acc ++ rest ∧ k < 8 ∧ vldB ack R = true ∧ more = (!rest.isEmpty) ∧ (unb l).drop a = entsB rest ++ List.replicate k false
  | 0, a, acc, more, R, h, hf, ha, hv => by omega
  | f + 1, a, acc, more, R, h, hf, ha, hv => by
    unfold decGo at h
    by_cases hm : more = false
    · rw [if_pos hm] at h
      split at h
      · rename_i he
        obtain ⟨k, hk, hz⟩ := end_zeros he ha
        obtain rfl : acc = R := (Prod.mk.inj h).2
        exact ⟨[], k, by simp, hk, hv, hm, by simpa [entsB] using hz⟩
      · cases (Prod.mk.inj h).1
    · rw [if_neg hm] at h
      by_cases hE : nkE l a = 0
      · rw [if_neg (by rw [hE]; simp)] at h
        by_cases hok : okNext ack acc (nkAt l a) = true
        · rw [if_pos hok] at h
          obtain ⟨h1, h2⟩ := nkA_ok hE
          obtain ⟨rest, k, q1, q2, q3, q4, q5⟩ := decGo_inv f (nkA l a) _ _ R h (by omega) h2 (vldB_snoc hv hok)
          refine ⟨nkAt l a :: rest, k, by rw [q1]; simp, q2, q3, by simpa using hm, ?_⟩
          rw [nk_said hE, entsB, q5, q4, List.append_assoc]
        · rw [if_neg hok] at h
          cases (Prod.mk.inj h).1
      · rw [if_pos hE] at h
        cases (Prod.mk.inj h).1
/-- what was decoded is encoded asz it was -/
theorem enc_dec {b : List Int} (hb : ∀ x ∈ b, 0 ≤ x ∧ x < 256) (hE : decE b = 0) : encE (decA b) (decL b) = 0 ∧ encL (decA b) (decL b) = b := by
  have eA : decA b = gv b 4 10 := if_pos hE
  have eL : decL b = (decGo b (gv b 4 10) (8 * b.length + 1) 15 [] (gv b 14 1 == 1)).2 := if_pos hE
  have hE2 := hE
  unfold decE at hE2
  split at hE2
  · rename_i h15
    split at hE2
    · rename_i h4
      have b1 := gv_bd b 4 10
      simp only [Nat.reducePow] at b1
      have hgo : decGo b (gv b 4 10) (8 * b.length + 1) 15 [] (gv b 14 1 == 1) = (0, decL b) := by rw [eL]; exact Prod.ext hE2 rfl
      obtain ⟨rest, k, q1, q2, q3, q4, q5⟩ := decGo_inv _ _ _ _ _ hgo (by omega) h15 (vldB_nil (by omega))
      rw [List.nil_append] at q1
      subst q1
      rw [← eA] at q3
      have hS : unb b = encS (decA b) (decL b) ++ List.replicate k false := by
        have e0 : unb b = (unb b).drop 0 := rfl
        rw [e0, fld_gv (l := b) (a := 0) (w := 4) (by omega), fld_gv (l := b) (a := 0 + 4) (w := 10) (by omega), fld_gv (l := b) (a := 0 + 4 + 10) (w := 1) (by omega), q5]
        have g1 : gv b 0 4 = 0 := h4
        have g2 : gv b (0 + 4) 10 = decA b := eA.symm
        have g3 : gv b (0 + 4 + 10) 1 = b2 (!(decL b).isEmpty) := by rw [← q4]; exact b2_gv.symm
        rw [g1, g2, g3]
        simp [encS, hdF, fldF]
      have e : encL (decA b) (decL b) = pk (encS (decA b) (decL b)) := if_pos q3
      refine ⟨if_pos q3, ?_⟩
      rw [e]
      refine unb_inj pk_bytes hb ?_
      rw [unb_pk, hS]
      unfold pad
      have hl := congrArg List.length hS
      rw [unb_length, List.length_append, List.length_replicate] at hl
      congr 2
      omega
    · cases hE2
  · cases hE2
end Go.Proofs.Ytcieclifabbkjaa

/- Status reports: the program's own comparison; decoding undoes encoding. -/
namespace Go.Proofs.Ytcieclifabbkjaa
open Go.RowKit
set_option linter.unusedSimpArgs false
set_option linter.unusedVariables false
--newlaws

set_option maxRecDepth 100000 in
theorem eqNk (A B : Option Addr) (n c m d : Nat) (l k : List NkV) (w : World) (hx : Sl w A (l.flatMap NkV.cells)) (hy : Sl w B (k.flatMap NkV.cells)) (hl : l.length = n) (hk : k.length = m) (hn : n ≤ 9223372036854775807) :
    Calls Try.prog 50 #[.slice A n c, .slice B m d] w (SX.Ret fun v w' => v = .bool (decide (l = k)) ∧ SX.St w [] w' []) := by
  have hs := SX.St.start w
  refine Z.enter Try.func50 rfl Try.ntmps50 rfl rfl ?_
  refine Z.seq ?_
  refine Z.region ?_
  refine Z.lb 1 rfl ?_
  refine Z.lnil ?_
  refine Z.only [0, 1] rfl ?_
  refine Z.nthen ?_
  refine Z.seq ?_
  refine Z.seq ?_
  refine Z.region ?_
  refine Z.lb 1 rfl ?_
  refine Z.l rfl rfl (by rfl) (Z.keepS hs) (Z.Yd.lenS rfl Try.underlying22) ?_
  refine Z.lb 1 rfl ?_
  refine Z.l rfl rfl (by rfl) (Z.keepS hs) (Z.Yd.lenS rfl Try.underlying22) ?_
  refine Z.lb 1 rfl ?_
  refine Z.lnil ?_
  refine Z.only [0, 1, 10] rfl ?_
  refine Z.nthen ?_
  refine Z.cond rfl (fun hc1 => ?_) (fun hc1 => ?_)
  · first
      | (exfalso; simp at hc1 <;> omega)
      | (
        (try simp at hc1)
        refine Z.seq ?_
        refine Z.region ?_
        refine Z.lb 1 rfl ?_
        refine Z.lnil ?_
        refine Z.only [4] rfl ?_
        refine Z.nthen ?_
        refine Z.ret ?_
        repeat (first | refine Z.rthen ?_ | refine Z.rblock ?_ | refine Z.rscope ?_)
        -- ret#0
        refine Z.out1 (by exact ⟨rfl, trivial⟩) ?_
        refine ⟨_, rfl, ?_, hs.sub (List.nil_sublist _)⟩
        first
        | exact congrArg Value.bool (decide_eq_false (fun h => take_ne hxi hyi (fun e => by subst e; simp_all) h)).symm
        | exact congrArg Value.bool (decide_eq_true ht).symm
        | exact congrArg Value.bool (decide_eq_false (fun h => by have hlk := congrArg List.length h; simp_all)).symm
        )
  · first
      | (exfalso; simp at hc1 <;> omega)
      | (
        (try simp at hc1)
        refine Z.skip ?_
        refine Z.nthen ?_
        refine Z.seq ?_
        refine Z.seq ?_
        refine Z.region ?_
        refine Z.lb 1 rfl ?_
        refine Z.l rfl rfl (by rfl) (Z.keepS hs) (Z.Yd.lenS rfl Try.underlying22) ?_
        refine Z.lb 1 rfl ?_
        refine Z.lnil ?_
        refine Z.only [0, 1, 12, 13] rfl ?_
        refine Z.nthen ?_
        refine Z.block ?_
        refine Z.loopk (ι := Nat) [0, 1, 12] rfl (fun i => [(13, [], .int .i64 (i : Int))]) (fun i wr => (i ≤ n ∧ n = m ∧ l.take i = k.take i) ∧ SX.St w [] wr []) (fun i => n - i) 0 (by refine ⟨?_, trivial⟩ <;> (first | rfl | (refine Z.lookv rfl ?_; simp; done) | (refine Z.lookv rfl ?_; simp; omega))) ⟨⟨by omega, by first | omega | simp_all, rfl⟩, hs⟩ ?_
        clear hs
        rintro i w4 ⟨⟨hi, hnm, ht⟩, hs⟩
        refine Z.only [0, 1, 12, 13] rfl ?_
        refine Z.seq ?_
        refine Z.region ?_
        refine Z.lb 1 rfl ?_
        refine Z.lnil ?_
        refine Z.only [0, 1, 12, 13, 14] rfl ?_
        refine Z.nthen ?_
        refine Z.seq ?_
        refine Z.cond rfl (fun hc4 => ?_) (fun hc4 => ?_)
        · first
            | (exfalso; simp at hc4 <;> omega)
            | (
              (try simp at hc4)
              have hfl := nk_flat l
              have hfk := nk_flat k
              obtain ⟨b, off, rfl, hx2⟩ := hx.sx.some (by omega)
              obtain ⟨b', off', rfl, hy2⟩ := hy.sx.some (by omega)
              obtain ⟨x, hxi⟩ : ∃ f, l[i]? = some f := ⟨_, List.getElem?_eq_getElem (by omega)⟩
              obtain ⟨y, hyi⟩ : ∃ f, k[i]? = some f := ⟨_, List.getElem?_eq_getElem (by omega)⟩
              refine Z.skip ?_
              refine Z.nthen ?_
              refine Z.seq ?_
              refine Z.block ?_
              refine Z.seq ?_
              refine Z.region ?_
              refine Z.lb 2 rfl ?_
              refine Z.lnil ?_
              refine Z.only [0, 1, 5, 12, 13] rfl ?_
              refine Z.nthen ?_
              refine Z.seq ?_
              refine Z.drawK (fun _ => true) mixed hs ?_
              clear hs; intro wd6 hs
              refine Z.tb [0, 1] (by kernel_rfl) rfl ⟨_, hs, by first | (simp; done) | exact fun e he => List.mem_append_right _ he⟩ rfl ?_
              refine Z.t 2 rfl rfl rfl (by rfl) (by kernel_rfl) ⟨_, hs, by first | (simp; done) | exact fun e he => List.mem_append_right _ he⟩ (Z.Yd.elem rfl rfl Try.underlying22 Try.sizeOf45 (fun hG => ⟨(by first | omega | (have hG' := Z.gh rfl hG; simp at hG'; omega)), (by first | omega | (have hG' := Z.gh rfl hG; simp at hG'; omega))⟩)) ?_
              refine Z.t 3 rfl rfl rfl (by rfl) (by kernel_rfl) ⟨_, hs, by first | (simp; done) | exact fun e he => List.mem_append_right _ he⟩ (Z.Yd.loadA _ rfl Try.isAgg45 (fun _ => Z.cellsX x.cells hx2 nk_len hxi rfl) (by exact Try.sizeOf45)) ?_
              refine Z.tb [4, 5] (by kernel_rfl) rfl ⟨_, hs, by first | (simp; done) | exact fun e he => List.mem_append_right _ he⟩ rfl ?_
              refine Z.t 6 rfl rfl rfl (by rfl) (by kernel_rfl) ⟨_, hs, by first | (simp; done) | exact fun e he => List.mem_append_right _ he⟩ (Z.Yd.elem rfl rfl Try.underlying22 Try.sizeOf45 (fun hG => ⟨(by first | omega | (have hG' := Z.gh rfl hG; simp at hG'; omega)), (by first | omega | (have hG' := Z.gh rfl hG; simp at hG'; omega))⟩)) ?_
              refine Z.t 7 rfl rfl rfl (by rfl) (by kernel_rfl) ⟨_, hs, by first | (simp; done) | exact fun e he => List.mem_append_right _ he⟩ (Z.Yd.loadA _ rfl Try.isAgg45 (fun _ => Z.cellsX y.cells hy2 nk_len hyi rfl) (by exact Try.sizeOf45)) ?_
              refine Z.t 8 rfl rfl rfl (by rfl) (by kernel_rfl) ⟨_, hs, by first | (simp; done) | exact fun e he => List.mem_append_right _ he⟩ (Z.Yd.neA (.st (.fc 0 1 (.i) (.fc 1 1 (.b) (.fc 2 1 (.i) (.fc 3 1 (.i) (.fn)))))) rfl rfl rfl rfl (by kernel_rfl) (by kernel_rfl) rfl) ?_
              refine Z.td (by rfl) (by kernel_rfl) ?_
              refine Z.only [0, 1, 12, 13, 24] rfl ?_
              refine Z.nthen ?_
              refine Z.cond rfl (fun hc6 => ?_) (fun hc6 => ?_)
              · first
                  | (exfalso; simp at hc6 <;> omega)
                  | (
                    (try simp at hc6)
                    refine Z.seq ?_
                    refine Z.region ?_
                    refine Z.lb 1 rfl ?_
                    refine Z.lnil ?_
                    refine Z.only [4] rfl ?_
                    refine Z.nthen ?_
                    refine Z.ret ?_
                    repeat (first | refine Z.rthen ?_ | refine Z.rblock ?_ | refine Z.rscope ?_)
                    -- ret#1
                    refine Z.out1 (by exact ⟨rfl, trivial⟩) ?_
                    refine ⟨_, rfl, ?_, hs.sub (List.nil_sublist _)⟩
                    first
                    | exact congrArg Value.bool (decide_eq_false (fun h => take_ne hxi hyi (fun e => by subst e; simp_all) h)).symm
                    | exact congrArg Value.bool (decide_eq_true ht).symm
                    | exact congrArg Value.bool (decide_eq_false (fun h => by have hlk := congrArg List.length h; simp_all)).symm
                    )
              · first
                  | (exfalso; simp at hc6 <;> omega)
                  | (
                    (try simp at hc6)
                    refine Z.skip ?_
                    refine Z.nblock ?_
                    refine Z.nthen ?_
                    refine Z.region ?_
                    refine Z.l rfl rfl (by rfl) (Z.keepS hs) (Z.Yd.add rfl rfl (fun hG => Z.wi64 (by first | omega | (have hG' := Z.gh rfl hG; simp at hG'; omega)))) ?_
                    refine Z.lb 1 rfl ?_
                    refine Z.lnil ?_
                    refine Z.only [0, 1, 12, 13] rfl ?_
                    refine Z.nthen ?_
                    have hxy : x = y := by apply nk_ext <;> simp_all
                    subst hxy
                    exact Z.again (i + 1) (by refine ⟨?_, ?_, ?_, ?_, trivial⟩ <;> (first | rfl | (refine Z.lookv rfl ?_; simp; done) | (refine Z.lookv rfl ?_; simp; omega))) ⟨⟨by omega, hnm, by rw [← take_snoc hxi, ← take_snoc hyi, ht]⟩, hs⟩ (by omega)
                    )
              )
        · first
            | (exfalso; simp at hc4 <;> omega)
            | (
              (try simp at hc4)
              refine Z.exit ?_
              refine Z.xthen ?_
              refine Z.xthen ?_
              refine Z.xblock ?_
              refine Z.nthen ?_
              refine Z.seq ?_
              refine Z.region ?_
              obtain rfl : i = n := by omega
              rw [List.take_of_length_le (by omega), List.take_of_length_le (by omega)] at ht
              refine Z.l rfl rfl (by rfl) (Z.keepS hs) (Z.Yd.pure rfl) ?_
              refine Z.lnil ?_
              refine Z.only [4] rfl ?_
              refine Z.nthen ?_
              refine Z.ret ?_
              -- ret#2
              refine Z.out1 (by exact ⟨rfl, trivial⟩) ?_
              refine ⟨_, rfl, ?_, hs.sub (List.nil_sublist _)⟩
              first
              | exact congrArg Value.bool (decide_eq_false (fun h => take_ne hxi hyi (fun e => by subst e; simp_all) h)).symm
              | exact congrArg Value.bool (decide_eq_true ht).symm
              | exact congrArg Value.bool (decide_eq_false (fun h => by have hlk := congrArg List.length h; simp_all)).symm
              )
        )
theorem ssame_any (a1 a2 : Int) (A B : Option Addr) (n c m d : Nat) (l k : List NkV) (w : World) (hx : Sl w A (l.flatMap NkV.cells)) (hy : Sl w B (k.flatMap NkV.cells)) (hl : l.length = n) (hk : k.length = m) (hn : n ≤ 9223372036854775807) :
    Calls Try.prog 22 #[.agg #[.int .i64 a1, .slice A n c], .agg #[.int .i64 a2, .slice B m d]] w (SX.Ret fun v w' => v = .bool (decide (a1 = a2 ∧ l = k)) ∧ SX.St w [] w' []) := by
  have hs := SX.St.start w
  refine Z.enter Try.func22 rfl Try.ntmps22 rfl rfl ?_
  refine Z.seq ?_
  refine Z.region ?_
  refine Z.le rfl trivial ?_
  refine Z.ZO.box rfl rfl (by rfl) rfl rfl hs ?_
  clear hs; intro g2 w2 hs
  refine Z.le rfl trivial ?_
  refine Z.ZO.box rfl rfl (by rfl) rfl rfl hs ?_
  clear hs; intro g3 w3 hs
  refine Z.lb 1 rfl ?_
  refine Z.lnil ?_
  refine Z.only [2, 3] rfl ?_
  refine Z.nthen ?_
  refine Z.seq ?_
  refine Z.region ?_
  refine Z.l rfl rfl (by rfl) (Z.keepS hs) (Z.Yd.fieldA (m := 0) rfl (by kernel_rfl)) ?_
  refine Z.l rfl rfl (by rfl) (Z.keepS hs) (by first | exact Z.Yd.load rfl Try.isAgg3 (fun _ => Z.cellB (by first | ((repeat (first | exact List.mem_cons_self | refine List.mem_cons_of_mem _ ?_ | refine List.mem_append_right _ ?_)); done) | fail) rfl) | exact Z.Yd.load rfl Try.isAgg3 (fun _ => Z.cellO (by assumption) (by simp) (by assumption)) | fail "load 1.1") ?_
  refine Z.l rfl rfl (by rfl) (Z.keepS hs) (Z.Yd.fieldA (m := 0) rfl (by kernel_rfl)) ?_
  refine Z.l rfl rfl (by rfl) (Z.keepS hs) (by first | exact Z.Yd.load rfl Try.isAgg3 (fun _ => Z.cellB (by first | ((repeat (first | exact List.mem_cons_self | refine List.mem_cons_of_mem _ ?_ | refine List.mem_append_right _ ?_)); done) | fail) rfl) | exact Z.Yd.load rfl Try.isAgg3 (fun _ => Z.cellO (by assumption) (by simp) (by assumption)) | fail "load 1.3") ?_
  refine Z.lb 2 rfl ?_
  refine Z.split (s := 10) rfl (fun hsp10 => ?_) (fun hsp10 => ?_)
  · first
      | (exfalso; simp at hsp10 <;> omega)
      | (
        refine Z.yes (s := 10) (b := true) rfl hsp10 rfl ?_
        (try simp at hsp10)
        refine Z.l rfl rfl (by rfl) (Z.keepS hs) (Z.Yd.fieldA (m := 1) rfl (by kernel_rfl)) ?_
        refine Z.l rfl rfl (by rfl) (Z.keepS hs) (by first | exact Z.Yd.load rfl Try.isAgg22 (fun _ => Z.cellB (by first | ((repeat (first | exact List.mem_cons_self | refine List.mem_cons_of_mem _ ?_ | refine List.mem_append_right _ ?_)); done) | fail) rfl) | exact Z.Yd.load rfl Try.isAgg22 (fun _ => Z.cellO (by assumption) (by simp) (by assumption)) | fail "load 1.7") ?_
        refine Z.l rfl rfl (by rfl) (Z.keepS hs) (Z.Yd.fieldA (m := 1) rfl (by kernel_rfl)) ?_
        refine Z.l rfl rfl (by rfl) (Z.keepS hs) (by first | exact Z.Yd.load rfl Try.isAgg22 (fun _ => Z.cellB (by first | ((repeat (first | exact List.mem_cons_self | refine List.mem_cons_of_mem _ ?_ | refine List.mem_append_right _ ?_)); done) | fail) rfl) | exact Z.Yd.load rfl Try.isAgg22 (fun _ => Z.cellO (by assumption) (by simp) (by assumption)) | fail "load 1.9") ?_
        refine Z.yes (s := 10) (b := true) rfl rfl rfl ?_
        refine Z.le rfl (by exact ⟨rfl, trivial⟩) ?_
        refine Z.ZO.call rfl rfl (by rfl) rfl rfl Try.call50 rfl (eqNk A B n c m d l k _ (hx.st (hs.sub (List.nil_sublist _))) (hy.st (hs.sub (List.nil_sublist _))) hl hk hn) ?_
        rintro v1_10 w1_10 ⟨rfl, hy⟩
        replace hs := hs.call hy
        clear hy
        try simp only [List.cons_append, List.nil_append, List.append_nil] at hs
        refine Z.l rfl rfl (by rfl) (Z.keepS hs) (Z.Yd.pickT rfl rfl) ?_
        refine Z.lb 1 rfl ?_
        refine Z.lnil ?_
        refine Z.only [4] rfl ?_
        refine Z.nthen ?_
        refine Z.ret ?_
        -- ret#0
        refine Z.out1 (by exact ⟨rfl, trivial⟩) ?_
        exact ⟨_, rfl, by simp_all, hs.sub (List.nil_sublist _)⟩
        )
  · first
      | (exfalso; simp at hsp10 <;> omega)
      | (
        refine Z.yes (s := 10) (b := false) rfl hsp10 rfl ?_
        (try simp at hsp10)
        refine Z.ls rfl rfl rfl (by rfl) ?_
        refine Z.ls rfl rfl rfl (by rfl) ?_
        refine Z.ls rfl rfl rfl (by rfl) ?_
        refine Z.ls rfl rfl rfl (by rfl) ?_
        refine Z.ls rfl rfl rfl (by rfl) ?_
        refine Z.l rfl rfl (by rfl) (Z.keepS hs) (Z.Yd.pickF rfl rfl) ?_
        refine Z.lb 1 rfl ?_
        refine Z.lnil ?_
        refine Z.only [4] rfl ?_
        refine Z.nthen ?_
        refine Z.ret ?_
        -- ret#1
        refine Z.out1 (by exact ⟨rfl, trivial⟩) ?_
        exact ⟨_, rfl, by simp_all, hs.sub (List.nil_sublist _)⟩
        )
set_option maxHeartbeats 1000000 in
set_option maxRecDepth 100000 in
theorem statusHolds_walk (ack : Int) (A : Option Addr) (n c : Nat) (l : List NkV) (B : Option Addr) (m d : Nat) (b : List Int) (w : World) (hx : Sl w A (l.flatMap NkV.cells)) (hl : l.length = n) (hn : n ≤ maxLen)
    (hxb : Sl w B (ints .u8 b)) (hlb : b.length = m) (hm : m ≤ maxLen) (hb : ∀ x ∈ b, 0 ≤ x ∧ x < 256) :
    Calls Try.prog 6 #[.agg #[.int .i64 ack, .slice A n c], .slice B m d] w (SX.Ret fun v w' => v = .bool true ∧ SX.St w [] w' []) := by
  have hs := SX.St.start w
  by_cases h : n ≤ 520 ∧ m ≤ 3000
  · obtain ⟨h520, h3⟩ := h
    have hdl := decL_len b
    have hsz := encL_size ack l
    have hcl : (encL ack l).length ≤ 1000000 := by
      unfold encL
      split
      · have := sizeN_le l
        rw [pk_length, encS_len]; omega
      · simp
    obtain ⟨hH1, hH2⟩ : (encE ack l = 0 ↔ vldB ack l = true) ∧ (encE ack l = 0 → decE (encL ack l) = 0 ∧ decA (encL ack l) = ack ∧ decL (encL ack l) = l) := by
      unfold encE
      by_cases hv : vldB ack l = true
      · rw [if_pos hv]
        exact ⟨⟨fun _ => hv, fun _ => rfl⟩, fun _ => dec_enc hv⟩
      · rw [if_neg hv]
        exact ⟨⟨fun h => absurd h (by decide), fun h => absurd h hv⟩, fun h => absurd h (by decide)⟩
    have hD := enc_dec hb
    have hbeq : (encE ack l == 0) = vldB ack l := by
      by_cases h0 : encE ack l = 0
      · rw [hH1.1 h0, h0]; rfl
      · rw [Bool.eq_false_iff.2 (fun hv => h0 (hH1.2 hv))]; exact beq_false_of_ne h0
    refine Z.enter Try.func6 rfl Try.ntmps6 rfl rfl ?_
    refine Z.seq ?_
    refine Z.region ?_
    refine Z.le rfl trivial ?_
    refine Z.ZO.box rfl rfl (by rfl) rfl rfl hs ?_
    clear hs; intro g2 w2 hs
    refine Z.lb 1 rfl ?_
    refine Z.lnil ?_
    refine Z.only [1, 2] rfl ?_
    refine Z.nthen ?_
    refine Z.seq ?_
    refine Z.seq ?_
    refine Z.region ?_
    refine Z.l rfl rfl (by rfl) (Z.keepS hs) (Z.Yd.fieldA (m := 1) rfl (by kernel_rfl)) ?_
    refine Z.l rfl rfl (by rfl) (Z.keepS hs) (by first | exact Z.Yd.load rfl Try.isAgg22 (fun _ => Z.cellB (by first | ((repeat (first | exact List.mem_cons_self | refine List.mem_cons_of_mem _ ?_ | refine List.mem_append_right _ ?_)); done) | fail) rfl) | exact Z.Yd.load rfl Try.isAgg22 (fun _ => Z.cellO (by assumption) (by simp) (by assumption)) | fail "load 1.1") ?_
    refine Z.l rfl rfl (by rfl) (Z.keepS hs) (Z.Yd.lenS rfl Try.underlying22) ?_
    refine Z.lb 2 rfl ?_
    refine Z.yes (s := 17) (b := false) rfl ((by simp; omega)) rfl ?_
    refine Z.lb 1 rfl ?_
    refine Z.l rfl rfl (by rfl) (Z.keepS hs) (Z.Yd.lenS rfl Try.underlying26) ?_
    refine Z.lb 1 rfl ?_
    refine Z.yes (s := 17) (b := false) rfl rfl rfl ?_
    refine Z.l rfl rfl (by rfl) (Z.keepS hs) (Z.Yd.pickF rfl rfl) ?_
    refine Z.lnil ?_
    refine Z.only [1, 2, 21] rfl ?_
    refine Z.nthen ?_
    refine Z.cond rfl (fun h => absurd h (by simp; omega)) (fun hc1 => ?_)
    refine Z.skip ?_
    refine Z.nthen ?_
    refine Z.seq ?_
    refine Z.region ?_
    refine Z.l rfl rfl (by rfl) (Z.keepS hs) (by first | exact Z.Yd.loadA _ rfl Try.isAgg24 (fun _ => Z.cellsB (by first | ((repeat (first | exact List.mem_cons_self | refine List.mem_cons_of_mem _ ?_ | refine List.mem_append_right _ ?_)); done) | fail)) (by exact Try.sizeOf24) | fail "load 3.0") ?_
    refine Z.le rfl trivial ?_
    refine Z.ZO.call rfl rfl (by rfl) rfl rfl Try.call10 rfl (encode_any ack A n c l _ (hx.st (hs.sub (List.nil_sublist _))) hl (by omega)) ?_
    rintro v3_1 w3_1 ⟨B1, c1, co1, rfl, hy⟩
    replace hs := hs.call hy
    clear hy
    try simp only [List.cons_append, List.nil_append, List.append_nil] at hs
    refine Z.lb 5 rfl ?_
    refine Z.lnil ?_
    refine Z.only [1, 2, 5, 6] rfl ?_
    refine Z.nthen ?_
    refine Z.seq ?_
    refine Z.seq ?_
    refine Z.drawK (fun _ => true) mixed hs ?_
    clear hs; intro wd4 hs
    refine Z.tb [0] (by kernel_rfl) rfl ⟨_, hs, by first | (simp; done) | exact fun e he => List.mem_append_right _ he⟩ rfl ?_
    refine Z.t 3 rfl rfl rfl (by rfl) (by kernel_rfl) ⟨_, hs, by first | (simp; done) | exact fun e he => List.mem_append_right _ he⟩ (by first | exact Z.Yd.loadA _ rfl Try.isAgg24 (fun _ => Z.cellsB (by first | ((repeat (first | exact List.mem_cons_self | refine List.mem_cons_of_mem _ ?_ | refine List.mem_append_right _ ?_)); done) | fail)) (by exact Try.sizeOf24) | fail "load 4.3") ?_
    refine Z.tn 1 rfl rfl (by kernel_rfl) rfl trivial ?_
    refine Z.ZO.call rfl rfl (by rfl) rfl rfl Try.call13 rfl (num34 _ _) ?_
    rintro v4_1 w4_1 ⟨rfl, hy⟩
    replace hs := hs.call hy
    clear hy
    try simp only [List.cons_append, List.nil_append, List.append_nil] at hs
    refine Z.tk (Dn := fun _ => true) (i := 1) (fun _ => ⟨_, hs, by first | (simp; done) | exact fun e he => List.mem_append_right _ he⟩) ?_
    refine Z.tb [2] (by kernel_rfl) rfl ⟨_, hs, by first | (simp; done) | exact fun e he => List.mem_append_right _ he⟩ rfl ?_
    refine Z.tn 4 rfl rfl (by kernel_rfl) rfl trivial ?_
    refine Z.ZO.call rfl rfl (by rfl) rfl rfl Try.call14 rfl (svalid_any ack A n c l _ (hx.st (hs.sub (List.nil_sublist _))) hl (by omega)) ?_
    rintro v4_4 w4_4 ⟨rfl, hy⟩
    replace hs := hs.call hy
    clear hy
    try simp only [List.cons_append, List.nil_append, List.append_nil] at hs
    refine Z.tk (Dn := fun _ => true) (i := 4) (fun _ => ⟨_, hs, by first | (simp; done) | exact fun e he => List.mem_append_right _ he⟩) ?_
    refine Z.t 5 rfl rfl rfl (by rfl) (by kernel_rfl) ⟨_, hs, by first | (simp; done) | exact fun e he => List.mem_append_right _ he⟩ (Z.Yd.bin rfl rfl (by intro _ w; go_simp; try rfl)) ?_
    refine Z.td (by rfl) (by kernel_rfl) ?_
    refine Z.only [1, 2, 5, 6, 33] rfl ?_
    refine Z.nthen ?_
    refine Z.cond rfl (fun h => absurd h (by first | (simp; done) | (rw [hbeq]; simp))) (fun hc4 => ?_)
    refine Z.skip ?_
    refine Z.nthen ?_
    refine Z.seq ?_
    refine Z.seq ?_
    refine Z.region ?_
    refine Z.lb 1 rfl ?_
    refine Z.le rfl trivial ?_
    refine Z.ZO.call rfl rfl (by rfl) rfl rfl Try.call13 rfl (num34 _ _) ?_
    rintro v6_1 w6_1 ⟨rfl, hy⟩
    replace hs := hs.call hy
    clear hy
    try simp only [List.cons_append, List.nil_append, List.append_nil] at hs
    refine Z.lb 1 rfl ?_
    refine Z.lnil ?_
    refine Z.only [1, 2, 5, 36] rfl ?_
    refine Z.nthen ?_
    refine Z.cutt (ι := Nat) [1] rfl (fun _ => []) (fun _ wr => SX.St w [] wr []) ?_ ?_
    · skip
      refine Z.cond rfl (fun hc6 => ?_) (fun hc6 => ?_)
      · first
          | (exfalso; simp at hc6 <;> omega)
          | (
            (try simp at hc6)
            obtain ⟨hE, hA, hL⟩ := hH2 (by assumption)
            refine Z.seq ?_
            refine Z.region ?_
            refine Z.lb 1 rfl ?_
            refine Z.le rfl trivial ?_
            refine Z.ZO.call rfl rfl (by rfl) rfl rfl Try.call17 rfl (decode_any B1 _ c1 (encL ack l) _ (hs.slm (by first | ((repeat (first | exact List.mem_cons_self | refine List.mem_cons_of_mem _ ?_ | refine List.mem_append_right _ ?_)); done) | fail)) rfl hcl (encL_by _ _)) ?_
            rintro v7_1 w7_1 ⟨B2, c2, co2, rfl, hy⟩
            replace hs := hs.call hy
            clear hy
            try simp only [List.cons_append, List.nil_append, List.append_nil] at hs
            rw [hE, hA, hL]
            rw [hL] at hs
            refine Z.lb 3 rfl ?_
            refine Z.le rfl trivial ?_
            refine Z.ZO.alloc rfl rfl (by rfl) Try.zeroValue24 rfl hs ?_
            clear hs; intro g7 w7 hs
            refine Z.le rfl trivial ?_
            first | refine Z.ZO.storeA rfl rfl hs rfl rfl (by kernel_rfl) (by first | (simp [Value.oneCell']; done) | (refine Z.all_one ?_; assumption)) (by first | exact SX.at0 | exact SX.at1 | exact SX.at2 | exact SX.at3 | exact SX.at4 | exact SX.at5 | exact Z.at6 | exact Z.at7 | exact Z.at8 | exact Z.at9 | exact Z.at10 | exact Z.at11 | exact Z.at12) (by rfl) ?_ | refine Z.ZO.storeP rfl rfl hs rfl rfl (by kernel_rfl) (by first | (simp [Value.oneCell']; done) | (refine Z.all_one ?_; assumption)) (by first | exact SX.at0 | exact SX.at1 | exact SX.at2 | exact SX.at3 | exact SX.at4 | exact SX.at5 | exact Z.at6 | exact Z.at7 | exact Z.at8 | exact Z.at9 | exact Z.at10 | exact Z.at11 | exact Z.at12) (by first | decide | (simp; done) | (simp; omega)) ?_ | refine Z.ZO.storePR rfl rfl hs rfl rfl (by kernel_rfl) (by first | (simp [Value.oneCell']; done) | (refine Z.all_one ?_; assumption)) (by first | exact SX.at0 | exact SX.at1 | exact SX.at2 | exact SX.at3 | exact SX.at4 | exact SX.at5 | exact Z.at6 | exact Z.at7 | exact Z.at8 | exact Z.at9 | exact Z.at10 | exact Z.at11 | exact Z.at12) (by first | decide | (simp; done) | (simp; omega)) ?_
            clear hs; intro ws hs
            simp only [Nat.zero_add, Nat.add_zero, Nat.reduceAdd, Int.reduceToNat, Nat.reduceMul, List.set_cons_zero, List.set_cons_succ, List.setIfInBounds_toArray] at hs
            try simp only [Z.putL, Nat.zero_add] at hs
            refine Z.lb 1 rfl ?_
            refine Z.lnil ?_
            refine Z.only [1, 2, 5, 7, 8] rfl ?_
            refine Z.nthen ?_
            refine Z.seq ?_
            refine Z.region ?_
            refine Z.lb 1 rfl ?_
            refine Z.le rfl trivial ?_
            refine Z.ZO.call rfl rfl (by rfl) rfl rfl Try.call13 rfl (num34 _ _) ?_
            rintro v8_1 w8_1 ⟨rfl, hy⟩
            replace hs := hs.call hy
            clear hy
            try simp only [List.cons_append, List.nil_append, List.append_nil] at hs
            refine Z.lb 2 rfl ?_
            refine Z.yes (s := 45) (b := false) rfl ((by simp)) rfl ?_
            refine Z.l rfl rfl (by rfl) (Z.keepS hs) (by first | exact Z.Yd.loadA _ rfl Try.isAgg24 (fun _ => Z.cellsB (by first | ((repeat (first | exact List.mem_cons_self | refine List.mem_cons_of_mem _ ?_ | refine List.mem_append_right _ ?_)); done) | fail)) (by exact Try.sizeOf24) | fail "load 8.4") ?_
            refine Z.l rfl rfl (by rfl) (Z.keepS hs) (by first | exact Z.Yd.loadA _ rfl Try.isAgg24 (fun _ => Z.cellsB (by first | ((repeat (first | exact List.mem_cons_self | refine List.mem_cons_of_mem _ ?_ | refine List.mem_append_right _ ?_)); done) | fail)) (by exact Try.sizeOf24) | fail "load 8.5") ?_
            refine Z.yes (s := 45) (b := false) rfl rfl rfl ?_
            refine Z.le rfl (by exact ⟨rfl, trivial⟩) ?_
            refine Z.ZO.call rfl rfl (by rfl) rfl rfl Try.call22 rfl (ssame_any ack ack B2 A _ _ _ _ l l _ (hs.slm (A := B2) (by first | ((repeat (first | exact List.mem_cons_self | refine List.mem_cons_of_mem _ ?_ | refine List.mem_append_right _ ?_)); done) | fail)) (hx.st (hs.sub (List.nil_sublist _))) rfl hl (by omega)) ?_
            rintro v8_6 w8_6 ⟨rfl, hy⟩
            replace hs := hs.call hy
            clear hy
            try simp only [List.cons_append, List.nil_append, List.append_nil] at hs
            refine Z.lb 1 rfl ?_
            refine Z.yes (s := 45) (b := false) rfl rfl rfl ?_
            refine Z.l rfl rfl (by rfl) (Z.keepS hs) (Z.Yd.pickF rfl rfl) ?_
            refine Z.lb 1 rfl ?_
            refine Z.yes (s := 51) (b := false) rfl ((by simp)) rfl ?_
            refine Z.lb 1 rfl ?_
            refine Z.l rfl rfl (by rfl) (Z.keepS hs) (Z.Yd.lenS rfl Try.underlying26) ?_
            refine Z.l rfl rfl (by rfl) (Z.keepS hs) (by first | exact Z.Yd.loadA _ rfl Try.isAgg24 (fun _ => Z.cellsB (by first | ((repeat (first | exact List.mem_cons_self | refine List.mem_cons_of_mem _ ?_ | refine List.mem_append_right _ ?_)); done) | fail)) (by exact Try.sizeOf24) | fail "load 8.12") ?_
            refine Z.yes (s := 51) (b := false) rfl rfl rfl ?_
            refine Z.le rfl (by exact ⟨rfl, trivial⟩) ?_
            refine Z.ZO.call rfl rfl (by rfl) rfl rfl Try.call16 rfl (Size_any ack A n c l _ (hx.st (hs.sub (List.nil_sublist _))) hl (by omega)) ?_
            rintro v8_13 w8_13 ⟨rfl, hy⟩
            replace hs := hs.call hy
            clear hy
            try simp only [List.cons_append, List.nil_append, List.append_nil] at hs
            refine Z.lb 1 rfl ?_
            refine Z.yes (s := 51) (b := false) rfl rfl rfl ?_
            refine Z.l rfl rfl (by rfl) (Z.keepS hs) (Z.Yd.pickF rfl rfl) ?_
            refine Z.lnil ?_
            refine Z.only [1, 57] rfl ?_
            refine Z.nthen ?_
            refine Z.cond rfl (fun h => absurd h (by simp; rw [← hsz, if_pos (by assumption)])) (fun hc8 => ?_)
            refine Z.skip ?_
            refine Z.nthen ?_
            exact Z.meet 0 (by refine ⟨?_, trivial⟩ <;> (first | rfl | (refine Z.lookv rfl ?_; simp; done) | (refine Z.lookv rfl ?_; simp; omega))) (hs.sub (List.nil_sublist _))
            )
      · first
          | (exfalso; simp at hc6 <;> omega)
          | (
            (try simp at hc6)
            refine Z.skip ?_
            refine Z.nthen ?_
            exact Z.meet 0 (by refine ⟨?_, trivial⟩ <;> (first | rfl | (refine Z.lookv rfl ?_; simp; done) | (refine Z.lookv rfl ?_; simp; omega))) (hs.sub (List.nil_sublist _))
            )
    · clear hs
      rintro _ w6 hs
      refine Z.only [1] rfl ?_
      refine Z.seq ?_
      refine Z.region ?_
      refine Z.lb 1 rfl ?_
      refine Z.le rfl trivial ?_
      refine Z.ZO.call rfl rfl (by rfl) rfl rfl Try.call17 rfl (decode_any B m d b _ (hxb.st (hs.sub (List.nil_sublist _))) hlb (by omega) hb) ?_
      rintro v10_1 w10_1 ⟨B3, c3, co3, rfl, hy⟩
      replace hs := hs.call hy
      clear hy
      try simp only [List.cons_append, List.nil_append, List.append_nil] at hs
      refine Z.lb 3 rfl ?_
      refine Z.le rfl trivial ?_
      refine Z.ZO.alloc rfl rfl (by rfl) Try.zeroValue24 rfl hs ?_
      clear hs; intro g9 w9 hs
      refine Z.le rfl trivial ?_
      first | refine Z.ZO.storeA rfl rfl hs rfl rfl (by kernel_rfl) (by first | (simp [Value.oneCell']; done) | (refine Z.all_one ?_; assumption)) (by first | exact SX.at0 | exact SX.at1 | exact SX.at2 | exact SX.at3 | exact SX.at4 | exact SX.at5 | exact Z.at6 | exact Z.at7 | exact Z.at8 | exact Z.at9 | exact Z.at10 | exact Z.at11 | exact Z.at12) (by rfl) ?_ | refine Z.ZO.storeP rfl rfl hs rfl rfl (by kernel_rfl) (by first | (simp [Value.oneCell']; done) | (refine Z.all_one ?_; assumption)) (by first | exact SX.at0 | exact SX.at1 | exact SX.at2 | exact SX.at3 | exact SX.at4 | exact SX.at5 | exact Z.at6 | exact Z.at7 | exact Z.at8 | exact Z.at9 | exact Z.at10 | exact Z.at11 | exact Z.at12) (by first | decide | (simp; done) | (simp; omega)) ?_ | refine Z.ZO.storePR rfl rfl hs rfl rfl (by kernel_rfl) (by first | (simp [Value.oneCell']; done) | (refine Z.all_one ?_; assumption)) (by first | exact SX.at0 | exact SX.at1 | exact SX.at2 | exact SX.at3 | exact SX.at4 | exact SX.at5 | exact Z.at6 | exact Z.at7 | exact Z.at8 | exact Z.at9 | exact Z.at10 | exact Z.at11 | exact Z.at12) (by first | decide | (simp; done) | (simp; omega)) ?_
      clear hs; intro ws hs
      simp only [Nat.zero_add, Nat.add_zero, Nat.reduceAdd, Int.reduceToNat, Nat.reduceMul, List.set_cons_zero, List.set_cons_succ, List.setIfInBounds_toArray] at hs
      try simp only [Z.putL, Nat.zero_add] at hs
      refine Z.lb 1 rfl ?_
      refine Z.lnil ?_
      refine Z.only [1, 9, 10] rfl ?_
      refine Z.nthen ?_
      refine Z.seq ?_
      refine Z.seq ?_
      refine Z.region ?_
      refine Z.lb 1 rfl ?_
      refine Z.le rfl trivial ?_
      refine Z.ZO.call rfl rfl (by rfl) rfl rfl Try.call13 rfl (num34 _ _) ?_
      rintro v11_1 w11_1 ⟨rfl, hy⟩
      replace hs := hs.call hy
      clear hy
      try simp only [List.cons_append, List.nil_append, List.append_nil] at hs
      refine Z.lb 1 rfl ?_
      refine Z.lnil ?_
      refine Z.only [1, 9, 65] rfl ?_
      refine Z.nthen ?_
      refine Z.cond rfl (fun hc11 => ?_) (fun hc11 => ?_)
      · first
          | (exfalso; simp at hc11 <;> omega)
          | (
            (try simp at hc11)
            refine Z.seq ?_
            refine Z.region ?_
            refine Z.le rfl trivial ?_
            refine Z.ZO.call rfl rfl (by rfl) rfl rfl Try.call9 rfl (works34 _) ?_
            rintro v12_0 w12_0 ⟨rfl, hy⟩
            replace hs := hs.call hy
            clear hy
            try simp only [List.cons_append, List.nil_append, List.append_nil] at hs
            refine Z.lb 1 rfl ?_
            refine Z.lnil ?_
            refine Z.only [4] rfl ?_
            refine Z.nthen ?_
            refine Z.ret ?_
            repeat (first | refine Z.rthen ?_ | refine Z.rblock ?_ | refine Z.rscope ?_)
            -- ret#0
            refine Z.out1 (by exact ⟨rfl, trivial⟩) ?_
            first | exact ⟨_, rfl, rfl, hs⟩ | exact ⟨_, rfl, rfl, hs.sub (List.nil_sublist _)⟩
            )
      · first
          | (exfalso; simp at hc11 <;> omega)
          | (
            (try simp at hc11)
            obtain ⟨hE, hL⟩ := hD (by assumption)
            refine Z.skip ?_
            refine Z.nthen ?_
            refine Z.seq ?_
            refine Z.region ?_
            refine Z.l rfl rfl (by rfl) (Z.keepS hs) (by first | exact Z.Yd.loadA _ rfl Try.isAgg24 (fun _ => Z.cellsB (by first | ((repeat (first | exact List.mem_cons_self | refine List.mem_cons_of_mem _ ?_ | refine List.mem_append_right _ ?_)); done) | fail)) (by exact Try.sizeOf24) | fail "load 13.0") ?_
            refine Z.le rfl trivial ?_
            refine Z.ZO.call rfl rfl (by rfl) rfl rfl Try.call10 rfl (encode_any (decA b) B3 _ c3 (decL b) _ (hs.slm (by first | ((repeat (first | exact List.mem_cons_self | refine List.mem_cons_of_mem _ ?_ | refine List.mem_append_right _ ?_)); done) | fail)) rfl (by omega)) ?_
            rintro v13_1 w13_1 ⟨B4, c4, co4, rfl, hy⟩
            replace hs := hs.call hy
            clear hy
            try simp only [List.cons_append, List.nil_append, List.append_nil] at hs
            rw [hE, hL]
            rw [hL] at hs
            refine Z.lb 5 rfl ?_
            refine Z.lnil ?_
            refine Z.only [1, 11, 12] rfl ?_
            refine Z.nthen ?_
            refine Z.seq ?_
            refine Z.seq ?_
            refine Z.region ?_
            refine Z.lb 1 rfl ?_
            refine Z.le rfl trivial ?_
            refine Z.ZO.call rfl rfl (by rfl) rfl rfl Try.call13 rfl (num34 _ _) ?_
            rintro v14_1 w14_1 ⟨rfl, hy⟩
            replace hs := hs.call hy
            clear hy
            try simp only [List.cons_append, List.nil_append, List.append_nil] at hs
            refine Z.lb 2 rfl ?_
            refine Z.yes (s := 75) (b := false) rfl ((by simp)) rfl ?_
            refine Z.lb 1 rfl ?_
            refine Z.l rfl rfl (by rfl) (Z.keepS hs) (Z.Yd.lenS rfl Try.underlying26) ?_
            refine Z.lb 1 rfl ?_
            refine Z.l rfl rfl (by rfl) (Z.keepS hs) (Z.Yd.lenS rfl Try.underlying26) ?_
            refine Z.lb 1 rfl ?_
            refine Z.yes (s := 75) (b := false) rfl rfl rfl ?_
            refine Z.l rfl rfl (by rfl) (Z.keepS hs) (Z.Yd.pickF rfl rfl) ?_
            refine Z.lnil ?_
            refine Z.only [1, 11, 81] rfl ?_
            refine Z.nthen ?_
            refine Z.cond rfl (fun h => absurd h (by simp; omega)) (fun hc14 => ?_)
            refine Z.skip ?_
            refine Z.nthen ?_
            refine Z.seq ?_
            refine Z.region ?_
            refine Z.lb 2 rfl ?_
            refine Z.le rfl trivial ?_
            refine Z.ZO.call rfl rfl (by rfl) rfl rfl Try.call12 rfl (same34 B4 B _ _ _ _ b b _ (hs.slm (A := B4) (by first | ((repeat (first | exact List.mem_cons_self | refine List.mem_cons_of_mem _ ?_ | refine List.mem_append_right _ ?_)); done) | fail)) (hxb.st (hs.sub (List.nil_sublist _))) rfl hlb hb hb) ?_
            rintro v16_2 w16_2 ⟨rfl, hy⟩
            replace hs := hs.call hy
            clear hy
            try simp only [List.cons_append, List.nil_append, List.append_nil] at hs
            refine Z.lb 1 rfl ?_
            refine Z.yes (s := 85) (b := true) rfl ((by simp)) rfl ?_
            refine Z.le rfl (by exact ⟨rfl, trivial⟩) ?_
            refine Z.ZO.call rfl rfl (by rfl) rfl rfl Try.call9 rfl (works34 _) ?_
            rintro v16_4 w16_4 ⟨rfl, hy⟩
            replace hs := hs.call hy
            clear hy
            try simp only [List.cons_append, List.nil_append, List.append_nil] at hs
            refine Z.l rfl rfl (by rfl) (Z.keepS hs) (Z.Yd.pickT rfl rfl) ?_
            refine Z.lb 1 rfl ?_
            refine Z.lnil ?_
            refine Z.only [4] rfl ?_
            refine Z.nthen ?_
            refine Z.ret ?_
            -- ret#1
            refine Z.out1 (by exact ⟨rfl, trivial⟩) ?_
            first | exact ⟨_, rfl, rfl, hs⟩ | exact ⟨_, rfl, rfl, hs.sub (List.nil_sublist _)⟩
            )
  · skip
    refine Z.enter Try.func6 rfl Try.ntmps6 rfl rfl ?_
    refine Z.seq ?_
    refine Z.region ?_
    refine Z.le rfl trivial ?_
    refine Z.ZO.box rfl rfl (by rfl) rfl rfl hs ?_
    clear hs; intro g2 w2 hs
    refine Z.lb 1 rfl ?_
    refine Z.lnil ?_
    refine Z.only [1, 2] rfl ?_
    refine Z.nthen ?_
    refine Z.seq ?_
    refine Z.seq ?_
    refine Z.region ?_
    refine Z.l rfl rfl (by rfl) (Z.keepS hs) (Z.Yd.fieldA (m := 1) rfl (by kernel_rfl)) ?_
    refine Z.l rfl rfl (by rfl) (Z.keepS hs) (by first | exact Z.Yd.load rfl Try.isAgg22 (fun _ => Z.cellB (by first | ((repeat (first | exact List.mem_cons_self | refine List.mem_cons_of_mem _ ?_ | refine List.mem_append_right _ ?_)); done) | fail) rfl) | exact Z.Yd.load rfl Try.isAgg22 (fun _ => Z.cellO (by assumption) (by simp) (by assumption)) | fail "load 1.1") ?_
    refine Z.l rfl rfl (by rfl) (Z.keepS hs) (Z.Yd.lenS rfl Try.underlying22) ?_
    refine Z.lb 2 rfl ?_
    refine Z.split (s := 17) rfl (fun hsp17 => ?_) (fun hsp17 => ?_)
    · first
        | (exfalso; simp at hsp17 <;> omega)
        | (
          refine Z.yes (s := 17) (b := true) rfl hsp17 rfl ?_
          (try simp at hsp17)
          refine Z.ls rfl rfl rfl (by rfl) ?_
          refine Z.ls rfl rfl rfl (by rfl) ?_
          refine Z.ls rfl rfl rfl (by rfl) ?_
          refine Z.l rfl rfl (by rfl) (Z.keepS hs) (Z.Yd.pickT rfl rfl) ?_
          refine Z.lnil ?_
          refine Z.only [1, 2, 21] rfl ?_
          refine Z.nthen ?_
          refine Z.cond rfl (fun hc1 => ?_) (fun h => absurd h (by first | (simp; done) | (simp; omega)))
          refine Z.seq ?_
          refine Z.region ?_
          refine Z.le rfl trivial ?_
          refine Z.ZO.call rfl rfl (by rfl) rfl rfl Try.call9 rfl (works34 _) ?_
          rintro v2_0 w2_0 ⟨rfl, hy⟩
          replace hs := hs.call hy
          clear hy
          try simp only [List.cons_append, List.nil_append, List.append_nil] at hs
          refine Z.lb 1 rfl ?_
          refine Z.lnil ?_
          refine Z.only [4] rfl ?_
          refine Z.nthen ?_
          refine Z.ret ?_
          repeat (first | refine Z.rthen ?_ | refine Z.rblock ?_ | refine Z.rscope ?_)
          -- ret#0
          refine Z.out1 (by exact ⟨rfl, trivial⟩) ?_
          first | exact ⟨_, rfl, rfl, hs⟩ | exact ⟨_, rfl, rfl, hs.sub (List.nil_sublist _)⟩
          )
    · first
        | (exfalso; simp at hsp17 <;> omega)
        | (
          refine Z.yes (s := 17) (b := false) rfl hsp17 rfl ?_
          (try simp at hsp17)
          refine Z.lb 1 rfl ?_
          refine Z.l rfl rfl (by rfl) (Z.keepS hs) (Z.Yd.lenS rfl Try.underlying26) ?_
          refine Z.lb 1 rfl ?_
          refine Z.yes (s := 17) (b := false) rfl rfl rfl ?_
          refine Z.l rfl rfl (by rfl) (Z.keepS hs) (Z.Yd.pickF rfl rfl) ?_
          refine Z.lnil ?_
          refine Z.only [1, 2, 21] rfl ?_
          refine Z.nthen ?_
          refine Z.cond rfl (fun hc1 => ?_) (fun h => absurd h (by first | (simp; done) | (simp; omega)))
          refine Z.seq ?_
          refine Z.region ?_
          refine Z.le rfl trivial ?_
          refine Z.ZO.call rfl rfl (by rfl) rfl rfl Try.call9 rfl (works34 _) ?_
          rintro v2_0 w2_0 ⟨rfl, hy⟩
          replace hs := hs.call hy
          clear hy
          try simp only [List.cons_append, List.nil_append, List.append_nil] at hs
          refine Z.lb 1 rfl ?_
          refine Z.lnil ?_
          refine Z.only [4] rfl ?_
          refine Z.nthen ?_
          refine Z.ret ?_
          repeat (first | refine Z.rthen ?_ | refine Z.rblock ?_ | refine Z.rscope ?_)
          -- ret#1
          refine Z.out1 (by exact ⟨rfl, trivial⟩) ?_
          first | exact ⟨_, rfl, rfl, hs⟩ | exact ⟨_, rfl, rfl, hs.sub (List.nil_sublist _)⟩
          )
theorem statusHolds_rd (cs0 : Array Value) (a1 : Option Addr) (len1 cap1 : Nat) (w : World) (z0 : Rd Try.prog w 24 (Value.agg cs0).cells.toList) (z1 : Rd Try.prog w 26 (Value.slice a1 len1 cap1).cells.toList) :
    Calls Try.prog 6 #[.agg cs0, .slice a1 len1 cap1] w fun e w' => e = .returned (.bool true) ∧ Below w.heap.size w w' := by
  obtain ⟨ack, A, n, c, l, hr, h1, h2, h3, h4⟩ := rd_status z0
  have e : cs0 = #[.int .i64 ack, .slice A n c] := by
    have : cs0.toList = [.int .i64 ack, .slice A n c] := by simpa [Value.cells] using hr
    exact Array.toList_inj.1 this
  rw [e]
  obtain ⟨b, q1, q2, q4, q5⟩ := rd_bytes (show Rd Try.prog w 26 [.slice a1 len1 cap1] by simpa [Value.cells] using z1)
  refine (statusHolds_walk ack A n c l a1 len1 cap1 b w h4 h1 (Nat.le_trans h2 h3) q5 q1 q2 q4).mono ?_
  rintro e w' ⟨v, rfl, rfl, h⟩
  exact ⟨rfl, h.below⟩
end Go.Proofs.Ytcieclifabbkjaa
