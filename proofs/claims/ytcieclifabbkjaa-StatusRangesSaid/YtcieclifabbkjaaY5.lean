/- Part 5 of the proofs that lead to the statement. -/
import Derived.Test.YtcieclifabbkjaaY4
/- Status reports: the examples hold. -/
namespace Go.Proofs.Ytcieclifabbkjaa
open Go.RowKit
set_option linter.unusedSimpArgs false
set_option linter.unusedVariables false
--newlaws

def ex1 : NkV := ⟨3, false, 0, 0⟩
def ex2 : NkV := ⟨4, true, 2, 9⟩
theorem by8 {l : List Int} (h : l.all (fun x => decide (0 ≤ x ∧ x < 256)) = true) : ∀ x ∈ l, 0 ≤ x ∧ x < 256 := fun x hx => by simpa using List.all_eq_true.1 h x hx
theorem sl_nil {w : World} {A : Option Addr} : Sl w A [] := fun h => absurd h (by decide)
set_option maxHeartbeats 1000000 in
set_option maxRecDepth 100000 in
theorem works34 (w : World) : Calls Try.prog 9 #[] w (SX.Ret fun v w' => v = .bool true ∧ SX.St w [] w' []) := by
  have hs := SX.St.start w
  have v1 : vldB 5 [] = true := by decide +kernel
  have v2 : vldB 5 [ex1, ex2] = true := by decide +kernel
  have e1 : encE 5 [] = 0 := by decide +kernel
  have e2 : encE 5 [ex1, ex2] = 0 := by decide +kernel
  have l1 : encL 5 [] = [0, 20] := by decide +kernel
  have l2 : encL 5 [ex1, ex2] = [0, 22, 1, 192, 34, 0, 8, 0, 72] := by decide +kernel
  have f1 : fitK [ex1, ex2] 5 4 = (4, 1) := by decide +kernel
  have s1 : sizeV 5 [ex1, ex2] = 9 := by decide +kernel
  have d1 : decE [0] = 5 := by decide +kernel
  have d2 : decE [128, 20] = 9 := by decide +kernel
  have d3 : decE [0, 21] = 9 := by decide +kernel
  refine Z.enter Try.func9 rfl Try.ntmps9 rfl rfl ?_
  refine Z.seq ?_
  refine Z.region ?_
  refine Z.lb 1 rfl ?_
  refine Z.lnil ?_
  refine Z.only [] rfl ?_
  refine Z.nthen ?_
  refine Z.seq ?_
  refine Z.region ?_
  refine Z.l rfl rfl (by rfl) (Z.keepS hs) (Z.Yd.buildL [(0, 1), (1, 1)] [.int .i64 0, .slice none 0 0] rfl rfl (by intro w; kernel_rfl)) ?_
  refine Z.le rfl trivial ?_
  refine Z.ZO.call rfl rfl (by rfl) rfl rfl Try.call10 rfl (encode_any 5 none 0 0 [] _ sl_nil rfl (by decide)) ?_
  rintro v1_1 w1_1 ⟨B1, c1, co1, rfl, hy⟩
  replace hs := hs.call hy
  clear hy
  try simp only [List.cons_append, List.nil_append, List.append_nil] at hs
  rw [e1, l1]
  rw [l1] at hs
  refine Z.lb 5 rfl ?_
  refine Z.lnil ?_
  refine Z.only [1, 2] rfl ?_
  refine Z.nthen ?_
  refine Z.seq ?_
  refine Z.region ?_
  refine Z.l rfl rfl (by rfl) (Z.keepS hs) (Z.Yd.buildL [(0, 1), (1, 1), (2, 1), (3, 1)] [.int .i64 0, .bool false, .int .i64 0, .int .i64 0] rfl rfl (by intro w; kernel_rfl)) ?_
  refine Z.l rfl rfl (by rfl) (Z.keepS hs) (Z.Yd.buildL [(0, 1), (1, 1), (2, 1), (3, 1)] [.int .i64 0, .bool false, .int .i64 0, .int .i64 0] rfl rfl (by intro w; kernel_rfl)) ?_
  refine Z.le rfl trivial ?_
  refine Z.ZO.litL (T' := 45) [(0, 4), (4, 4)] [.int .i64 0, .bool false, .int .i64 0, .int .i64 0, .int .i64 0, .bool false, .int .i64 0, .int .i64 0] rfl rfl (by rfl) rfl rfl (by intro W; kernel_rfl) hs ?_
  clear hs; intro g17 w17 hs
  refine Z.l rfl rfl (by rfl) (Z.keepS hs) (Z.Yd.buildL [(0, 1), (1, 1)] [.int .i64 0, .slice none 0 0] rfl rfl (by intro w; kernel_rfl)) ?_
  refine Z.le rfl trivial ?_
  refine Z.ZO.alloc rfl rfl (by rfl) Try.zeroValue24 rfl hs ?_
  clear hs; intro g3 w3 hs
  refine Z.le rfl trivial ?_
  first | refine Z.ZO.storeA rfl rfl hs rfl rfl (by kernel_rfl) (by first | (simp [Value.oneCell']; done) | (refine Z.all_one ?_; assumption)) (by first | exact SX.at0 | exact SX.at1 | exact SX.at2 | exact SX.at3 | exact SX.at4 | exact SX.at5 | exact Z.at6 | exact Z.at7 | exact Z.at8 | exact Z.at9 | exact Z.at10 | exact Z.at11 | exact Z.at12) (by rfl) ?_ | refine Z.ZO.storeP rfl rfl hs rfl rfl (by kernel_rfl) (by first | (simp [Value.oneCell']; done) | (refine Z.all_one ?_; assumption)) (by first | exact SX.at0 | exact SX.at1 | exact SX.at2 | exact SX.at3 | exact SX.at4 | exact SX.at5 | exact Z.at6 | exact Z.at7 | exact Z.at8 | exact Z.at9 | exact Z.at10 | exact Z.at11 | exact Z.at12) (by first | decide | (simp; done) | (simp; omega)) ?_ | refine Z.ZO.storePR rfl rfl hs rfl rfl (by kernel_rfl) (by first | (simp [Value.oneCell']; done) | (refine Z.all_one ?_; assumption)) (by first | exact SX.at0 | exact SX.at1 | exact SX.at2 | exact SX.at3 | exact SX.at4 | exact SX.at5 | exact Z.at6 | exact Z.at7 | exact Z.at8 | exact Z.at9 | exact Z.at10 | exact Z.at11 | exact Z.at12) (by first | decide | (simp; done) | (simp; omega)) ?_
  clear hs; intro ws hs
  simp only [Nat.zero_add, Nat.add_zero, Nat.reduceAdd, Int.reduceToNat, Nat.reduceMul, List.set_cons_zero, List.set_cons_succ, List.setIfInBounds_toArray] at hs
  try simp only [Z.putL, Nat.zero_add] at hs
  refine Z.lnil ?_
  refine Z.only [1, 2, 3] rfl ?_
  refine Z.nthen ?_
  refine Z.seq ?_
  refine Z.region ?_
  refine Z.l rfl rfl (by rfl) (Z.keepS hs) (by first | exact Z.Yd.loadA _ rfl Try.isAgg24 (fun _ => Z.cellsB (by first | ((repeat (first | exact List.mem_cons_self | refine List.mem_cons_of_mem _ ?_ | refine List.mem_append_right _ ?_)); done) | fail)) (by exact Try.sizeOf24) | fail "load 3.0") ?_
  refine Z.le rfl trivial ?_
  refine Z.ZO.call rfl rfl (by rfl) rfl rfl Try.call10 rfl (encode_any 5 (some ⟨g17, 0, none⟩) 2 2 [ex1, ex2] _ (by have h0 := hs.blkSl (g := g17) (by first | ((repeat (first | exact List.mem_cons_self | refine List.mem_cons_of_mem _ ?_ | refine List.mem_append_right _ ?_)); done) | fail); exact h0) rfl (by decide)) ?_
  rintro v3_1 w3_1 ⟨B2, c2, co2, rfl, hy⟩
  replace hs := hs.call hy
  clear hy
  try simp only [List.cons_append, List.nil_append, List.append_nil] at hs
  rw [e2, l2]
  rw [l2] at hs
  refine Z.lb 5 rfl ?_
  refine Z.lnil ?_
  refine Z.only [1, 2, 3, 4, 5] rfl ?_
  refine Z.nthen ?_
  refine Z.seq ?_
  refine Z.region ?_
  refine Z.l rfl rfl (by rfl) (Z.keepS hs) (by first | exact Z.Yd.loadA _ rfl Try.isAgg24 (fun _ => Z.cellsB (by first | ((repeat (first | exact List.mem_cons_self | refine List.mem_cons_of_mem _ ?_ | refine List.mem_append_right _ ?_)); done) | fail)) (by exact Try.sizeOf24) | fail "load 4.0") ?_
  refine Z.le rfl trivial ?_
  refine Z.ZO.call rfl rfl (by rfl) rfl rfl Try.call20 rfl (fit_ok 5 4 (some ⟨g17, 0, none⟩) 2 2 [ex1, ex2] _ (by have h0 := hs.blkSl (g := g17) (by first | ((repeat (first | exact List.mem_cons_self | refine List.mem_cons_of_mem _ ?_ | refine List.mem_append_right _ ?_)); done) | fail); exact h0) rfl (by decide) v2 (by decide)) ?_
  rintro v4_1 w4_1 ⟨B3, co3, c3, rfl, hc3, hy⟩
  replace hs := hs.call hy
  clear hy
  try simp only [List.cons_append, List.nil_append, List.append_nil] at hs
  rw [f1]
  rw [f1] at hc3
  refine Z.lb 3 rfl ?_
  refine Z.le rfl trivial ?_
  refine Z.ZO.alloc rfl rfl (by rfl) Try.zeroValue24 rfl hs ?_
  clear hs; intro g6 w6 hs
  refine Z.le rfl trivial ?_
  first | refine Z.ZO.storeA rfl rfl hs rfl rfl (by kernel_rfl) (by first | (simp [Value.oneCell']; done) | (refine Z.all_one ?_; assumption)) (by first | exact SX.at0 | exact SX.at1 | exact SX.at2 | exact SX.at3 | exact SX.at4 | exact SX.at5 | exact Z.at6 | exact Z.at7 | exact Z.at8 | exact Z.at9 | exact Z.at10 | exact Z.at11 | exact Z.at12) (by rfl) ?_ | refine Z.ZO.storeP rfl rfl hs rfl rfl (by kernel_rfl) (by first | (simp [Value.oneCell']; done) | (refine Z.all_one ?_; assumption)) (by first | exact SX.at0 | exact SX.at1 | exact SX.at2 | exact SX.at3 | exact SX.at4 | exact SX.at5 | exact Z.at6 | exact Z.at7 | exact Z.at8 | exact Z.at9 | exact Z.at10 | exact Z.at11 | exact Z.at12) (by first | decide | (simp; done) | (simp; omega)) ?_ | refine Z.ZO.storePR rfl rfl hs rfl rfl (by kernel_rfl) (by first | (simp [Value.oneCell']; done) | (refine Z.all_one ?_; assumption)) (by first | exact SX.at0 | exact SX.at1 | exact SX.at2 | exact SX.at3 | exact SX.at4 | exact SX.at5 | exact Z.at6 | exact Z.at7 | exact Z.at8 | exact Z.at9 | exact Z.at10 | exact Z.at11 | exact Z.at12) (by first | decide | (simp; done) | (simp; omega)) ?_
  clear hs; intro ws hs
  simp only [Nat.zero_add, Nat.add_zero, Nat.reduceAdd, Int.reduceToNat, Nat.reduceMul, List.set_cons_zero, List.set_cons_succ, List.setIfInBounds_toArray] at hs
  try simp only [Z.putL, Nat.zero_add] at hs
  refine Z.lb 1 rfl ?_
  refine Z.lnil ?_
  refine Z.only [1, 2, 3, 4, 5, 6, 7] rfl ?_
  refine Z.nthen ?_
  refine Z.seq ?_
  refine Z.region ?_
  refine Z.l rfl rfl (by rfl) (Z.keepS hs) (by first | exact Z.Yd.loadA _ rfl Try.isAgg24 (fun _ => Z.cellsB (by first | ((repeat (first | exact List.mem_cons_self | refine List.mem_cons_of_mem _ ?_ | refine List.mem_append_right _ ?_)); done) | fail)) (by exact Try.sizeOf24) | fail "load 5.0") ?_
  refine Z.le rfl trivial ?_
  refine Z.ZO.call rfl rfl (by rfl) rfl rfl Try.call20 rfl (fit_short 5 1 (some ⟨g17, 0, none⟩) 2 2 [ex1, ex2] _ (by have h0 := hs.blkSl (g := g17) (by first | ((repeat (first | exact List.mem_cons_self | refine List.mem_cons_of_mem _ ?_ | refine List.mem_append_right _ ?_)); done) | fail); exact h0) rfl (by decide) v2 (by decide)) ?_
  rintro v5_1 w5_1 ⟨rfl, hy⟩
  replace hs := hs.call hy
  clear hy
  try simp only [List.cons_append, List.nil_append, List.append_nil] at hs
  refine Z.lb 3 rfl ?_
  refine Z.le rfl trivial ?_
  refine Z.ZO.alloc rfl rfl (by rfl) Try.zeroValue24 rfl hs ?_
  clear hs; intro g8 w8 hs
  refine Z.le rfl trivial ?_
  first | refine Z.ZO.storeA rfl rfl hs rfl rfl (by kernel_rfl) (by first | (simp [Value.oneCell']; done) | (refine Z.all_one ?_; assumption)) (by first | exact SX.at0 | exact SX.at1 | exact SX.at2 | exact SX.at3 | exact SX.at4 | exact SX.at5 | exact Z.at6 | exact Z.at7 | exact Z.at8 | exact Z.at9 | exact Z.at10 | exact Z.at11 | exact Z.at12) (by rfl) ?_ | refine Z.ZO.storeP rfl rfl hs rfl rfl (by kernel_rfl) (by first | (simp [Value.oneCell']; done) | (refine Z.all_one ?_; assumption)) (by first | exact SX.at0 | exact SX.at1 | exact SX.at2 | exact SX.at3 | exact SX.at4 | exact SX.at5 | exact Z.at6 | exact Z.at7 | exact Z.at8 | exact Z.at9 | exact Z.at10 | exact Z.at11 | exact Z.at12) (by first | decide | (simp; done) | (simp; omega)) ?_ | refine Z.ZO.storePR rfl rfl hs rfl rfl (by kernel_rfl) (by first | (simp [Value.oneCell']; done) | (refine Z.all_one ?_; assumption)) (by first | exact SX.at0 | exact SX.at1 | exact SX.at2 | exact SX.at3 | exact SX.at4 | exact SX.at5 | exact Z.at6 | exact Z.at7 | exact Z.at8 | exact Z.at9 | exact Z.at10 | exact Z.at11 | exact Z.at12) (by first | decide | (simp; done) | (simp; omega)) ?_
  clear hs; intro ws hs
  simp only [Nat.zero_add, Nat.add_zero, Nat.reduceAdd, Int.reduceToNat, Nat.reduceMul, List.set_cons_zero, List.set_cons_succ, List.setIfInBounds_toArray] at hs
  try simp only [Z.putL, Nat.zero_add] at hs
  refine Z.lb 1 rfl ?_
  refine Z.lnil ?_
  refine Z.only [1, 2, 3, 4, 5, 6, 7, 9] rfl ?_
  refine Z.nthen ?_
  refine Z.seq ?_
  refine Z.region ?_
  refine Z.lb 1 rfl ?_
  refine Z.le rfl trivial ?_
  refine Z.ZO.call rfl rfl (by rfl) rfl rfl Try.call13 rfl (num34 _ _) ?_
  rintro v6_1 w6_1 ⟨rfl, hy⟩
  replace hs := hs.call hy
  clear hy
  try simp only [List.cons_append, List.nil_append, List.append_nil] at hs
  refine Z.lb 1 rfl ?_
  refine Z.le rfl trivial ?_
  refine Z.ZO.call rfl rfl (by rfl) rfl rfl Try.call13 rfl (num34 _ _) ?_
  rintro v6_3 w6_3 ⟨rfl, hy⟩
  replace hs := hs.call hy
  clear hy
  try simp only [List.cons_append, List.nil_append, List.append_nil] at hs
  refine Z.l rfl rfl (by rfl) (Z.keepS hs) (Z.Yd.add rfl rfl (fun hG => Z.wi64 (by first | omega | (have hG' := Z.gh rfl hG; simp at hG'; omega)))) ?_
  refine Z.lb 1 rfl ?_
  refine Z.le rfl trivial ?_
  refine Z.ZO.call rfl rfl (by rfl) rfl rfl Try.call13 rfl (num34 _ _) ?_
  rintro v6_6 w6_6 ⟨rfl, hy⟩
  replace hs := hs.call hy
  clear hy
  try simp only [List.cons_append, List.nil_append, List.append_nil] at hs
  refine Z.l rfl rfl (by rfl) (Z.keepS hs) (Z.Yd.add rfl rfl (fun hG => Z.wi64 (by first | omega | (have hG' := Z.gh rfl hG; simp at hG'; omega)))) ?_
  refine Z.lb 2 rfl ?_
  refine Z.yes (s := 43) (b := true) rfl ((by simp)) rfl ?_
  refine Z.lb 1 rfl ?_
  refine Z.yes (s := 43) (b := true) rfl rfl rfl ?_
  refine Z.le rfl (by exact ⟨rfl, trivial⟩) ?_
  refine Z.ZO.litL (T' := 5) [(0, 1), (1, 1)] [.int .u8 0, .int .u8 0] rfl rfl (by rfl) rfl rfl (by intro W; kernel_rfl) hs ?_
  clear hs; intro g45 w45 hs
  refine Z.le rfl (by exact ⟨rfl, trivial⟩) ?_
  refine Z.ZO.call rfl rfl (by rfl) rfl rfl Try.call12 rfl (same34 B1 _ _ _ _ _ [0, 20] [0, 20] _ (hs.slm (by first | ((repeat (first | exact List.mem_cons_self | refine List.mem_cons_of_mem _ ?_ | refine List.mem_append_right _ ?_)); done) | fail)) (by have h0 := hs.blkSl (List.mem_cons_self); exact h0) rfl rfl (by8 (by decide)) (by8 (by decide))) ?_
  rintro v6_12 w6_12 ⟨rfl, hy⟩
  replace hs := hs.call hy
  clear hy
  try simp only [List.cons_append, List.nil_append, List.append_nil] at hs
  refine Z.l rfl rfl (by rfl) (Z.keepS hs) (Z.Yd.pickT rfl rfl) ?_
  refine Z.lb 1 rfl ?_
  refine Z.yes (s := 48) (b := true) rfl ((by simp)) rfl ?_
  refine Z.lb 1 rfl ?_
  refine Z.yes (s := 48) (b := true) rfl rfl rfl ?_
  refine Z.le rfl (by exact ⟨rfl, trivial⟩) ?_
  refine Z.ZO.litL (T' := 5) [(0, 1), (1, 1), (2, 1), (3, 1), (4, 1), (5, 1), (6, 1), (7, 1), (8, 1)] [.int .u8 0, .int .u8 0, .int .u8 0, .int .u8 0, .int .u8 0, .int .u8 0, .int .u8 0, .int .u8 0, .int .u8 0] rfl rfl (by rfl) rfl rfl (by intro W; kernel_rfl) hs ?_
  clear hs; intro g50 w50 hs
  refine Z.le rfl (by exact ⟨rfl, trivial⟩) ?_
  refine Z.ZO.call rfl rfl (by rfl) rfl rfl Try.call12 rfl (same34 B2 _ _ _ _ _ [0, 22, 1, 192, 34, 0, 8, 0, 72] [0, 22, 1, 192, 34, 0, 8, 0, 72] _ (hs.slm (by first | ((repeat (first | exact List.mem_cons_self | refine List.mem_cons_of_mem _ ?_ | refine List.mem_append_right _ ?_)); done) | fail)) (by have h0 := hs.blkSl (List.mem_cons_self); exact h0) rfl rfl (by8 (by decide)) (by8 (by decide))) ?_
  rintro v6_17 w6_17 ⟨rfl, hy⟩
  replace hs := hs.call hy
  clear hy
  try simp only [List.cons_append, List.nil_append, List.append_nil] at hs
  refine Z.l rfl rfl (by rfl) (Z.keepS hs) (Z.Yd.pickT rfl rfl) ?_
  refine Z.lb 1 rfl ?_
  refine Z.yes (s := 53) (b := true) rfl ((by simp)) rfl ?_
  refine Z.l rfl rfl (by rfl) (Z.keepS hs) (by first | exact Z.Yd.loadA _ rfl Try.isAgg24 (fun _ => Z.cellsB (by first | ((repeat (first | exact List.mem_cons_self | refine List.mem_cons_of_mem _ ?_ | refine List.mem_append_right _ ?_)); done) | fail)) (by exact Try.sizeOf24) | fail "load 6.20") ?_
  refine Z.yes (s := 53) (b := true) rfl rfl rfl ?_
  refine Z.le rfl (by exact ⟨rfl, trivial⟩) ?_
  refine Z.ZO.call rfl rfl (by rfl) rfl rfl Try.call16 rfl (Size_any 5 (some ⟨g17, 0, none⟩) 2 2 [ex1, ex2] _ (by have h0 := hs.blkSl (g := g17) (by first | ((repeat (first | exact List.mem_cons_self | refine List.mem_cons_of_mem _ ?_ | refine List.mem_append_right _ ?_)); done) | fail); exact h0) rfl (by decide)) ?_
  rintro v6_21 w6_21 ⟨rfl, hy⟩
  replace hs := hs.call hy
  clear hy
  try simp only [List.cons_append, List.nil_append, List.append_nil] at hs
  rw [s1]
  refine Z.lb 1 rfl ?_
  refine Z.yes (s := 53) (b := true) rfl rfl rfl ?_
  refine Z.l rfl rfl (by rfl) (Z.keepS hs) (Z.Yd.pickT rfl rfl) ?_
  refine Z.lb 1 rfl ?_
  refine Z.yes (s := 58) (b := true) rfl ((by simp)) rfl ?_
  refine Z.l rfl rfl (by rfl) (Z.keepS hs) (by first | exact Z.Yd.loadA _ rfl Try.isAgg24 (fun _ => Z.cellsB (by first | ((repeat (first | exact List.mem_cons_self | refine List.mem_cons_of_mem _ ?_ | refine List.mem_append_right _ ?_)); done) | fail)) (by exact Try.sizeOf24) | fail "load 6.25") ?_
  refine Z.l rfl rfl (by rfl) (Z.keepS hs) (Z.Yd.buildL [(0, 1), (1, 1), (2, 1), (3, 1)] [.int .i64 0, .bool false, .int .i64 0, .int .i64 0] rfl rfl (by intro w; kernel_rfl)) ?_
  refine Z.yes (s := 58) (b := true) rfl rfl rfl ?_
  refine Z.le rfl (by exact ⟨rfl, trivial⟩) ?_
  refine Z.ZO.litL (T' := 45) [(0, 4)] [.int .i64 0, .bool false, .int .i64 0, .int .i64 0] rfl rfl (by rfl) rfl rfl (by intro W; kernel_rfl) hs ?_
  clear hs; intro g61 w61 hs
  refine Z.l rfl rfl (by rfl) (Z.keepS hs) (Z.Yd.buildL [(0, 1), (1, 1)] [.int .i64 0, .slice none 0 0] rfl rfl (by intro w; kernel_rfl)) ?_
  refine Z.yes (s := 58) (b := true) rfl rfl rfl ?_
  refine Z.le rfl (by exact ⟨rfl, trivial⟩) ?_
  refine Z.ZO.call rfl rfl (by rfl) rfl rfl Try.call19 rfl (rsame34 4 4 B3 _ 1 _ 1 1 [ex1] [ex1] _ (Sl.pre (hs.slm (A := B3) (by first | ((repeat (first | exact List.mem_cons_self | refine List.mem_cons_of_mem _ ?_ | refine List.mem_append_right _ ?_)); done) | fail)) (nk_pre [ex1, ex2] 1)) (by have h0 := hs.blkSl (List.mem_cons_self); exact h0) rfl rfl (by decide)) ?_
  rintro v6_29 w6_29 ⟨rfl, hy⟩
  replace hs := hs.call hy
  clear hy
  try simp only [List.cons_append, List.nil_append, List.append_nil] at hs
  refine Z.l rfl rfl (by rfl) (Z.keepS hs) (Z.Yd.pickT rfl rfl) ?_
  refine Z.lb 1 rfl ?_
  refine Z.yes (s := 65) (b := true) rfl ((by simp)) rfl ?_
  refine Z.lb 2 rfl ?_
  refine Z.yes (s := 65) (b := true) rfl rfl rfl ?_
  refine Z.l rfl rfl (by rfl) (Z.keepS hs) (Z.Yd.pickT rfl rfl) ?_
  refine Z.lb 1 rfl ?_
  refine Z.yes (s := 69) (b := true) rfl ((by simp)) rfl ?_
  refine Z.le rfl (by exact ⟨rfl, trivial⟩) ?_
  refine Z.ZO.litL (T' := 5) [(0, 1)] [.int .u8 0] rfl rfl (by rfl) rfl rfl (by intro W; kernel_rfl) hs ?_
  clear hs; intro g70 w70 hs
  refine Z.le rfl (by exact ⟨rfl, trivial⟩) ?_
  refine Z.ZO.call rfl rfl (by rfl) rfl rfl Try.call26 rfl (fails34 5 _ 1 1 [0] _ (by have h0 := hs.blkSl (List.mem_cons_self); exact h0) rfl (by decide) (by8 (by decide)) d1 (by decide)) ?_
  rintro v6_37 w6_37 ⟨rfl, hy⟩
  replace hs := hs.call hy
  clear hy
  try simp only [List.cons_append, List.nil_append, List.append_nil] at hs
  refine Z.l rfl rfl (by rfl) (Z.keepS hs) (Z.Yd.pickT rfl rfl) ?_
  refine Z.lb 1 rfl ?_
  refine Z.yes (s := 73) (b := true) rfl ((by simp)) rfl ?_
  refine Z.le rfl (by exact ⟨rfl, trivial⟩) ?_
  refine Z.ZO.litL (T' := 5) [(0, 1), (1, 1)] [.int .u8 0, .int .u8 0] rfl rfl (by rfl) rfl rfl (by intro W; kernel_rfl) hs ?_
  clear hs; intro g74 w74 hs
  refine Z.le rfl (by exact ⟨rfl, trivial⟩) ?_
  refine Z.ZO.call rfl rfl (by rfl) rfl rfl Try.call26 rfl (fails34 9 _ 2 2 [128, 20] _ (by have h0 := hs.blkSl (List.mem_cons_self); exact h0) rfl (by decide) (by8 (by decide)) d2 (by decide)) ?_
  rintro v6_41 w6_41 ⟨rfl, hy⟩
  replace hs := hs.call hy
  clear hy
  try simp only [List.cons_append, List.nil_append, List.append_nil] at hs
  refine Z.l rfl rfl (by rfl) (Z.keepS hs) (Z.Yd.pickT rfl rfl) ?_
  refine Z.lb 1 rfl ?_
  refine Z.yes (s := 77) (b := true) rfl ((by simp)) rfl ?_
  refine Z.le rfl (by exact ⟨rfl, trivial⟩) ?_
  refine Z.ZO.litL (T' := 5) [(0, 1), (1, 1)] [.int .u8 0, .int .u8 0] rfl rfl (by rfl) rfl rfl (by intro W; kernel_rfl) hs ?_
  clear hs; intro g78 w78 hs
  refine Z.le rfl (by exact ⟨rfl, trivial⟩) ?_
  refine Z.ZO.call rfl rfl (by rfl) rfl rfl Try.call26 rfl (fails34 9 _ 2 2 [0, 21] _ (by have h0 := hs.blkSl (List.mem_cons_self); exact h0) rfl (by decide) (by8 (by decide)) d3 (by decide)) ?_
  rintro v6_45 w6_45 ⟨rfl, hy⟩
  replace hs := hs.call hy
  clear hy
  try simp only [List.cons_append, List.nil_append, List.append_nil] at hs
  refine Z.l rfl rfl (by rfl) (Z.keepS hs) (Z.Yd.pickT rfl rfl) ?_
  refine Z.lb 1 rfl ?_
  refine Z.lnil ?_
  refine Z.only [0] rfl ?_
  refine Z.nthen ?_
  refine Z.ret ?_
  -- ret#0
  refine Z.out1 (by exact ⟨rfl, trivial⟩) ?_
  first | exact ⟨_, rfl, rfl, hs⟩ | exact ⟨_, rfl, rfl, hs.sub (List.nil_sublist _)⟩
end Go.Proofs.Ytcieclifabbkjaa

/- Status reports: Encode against the document. -/
namespace Go.Proofs.Ytcieclifabbkjaa
open Go.RowKit
set_option linter.unusedSimpArgs false
set_option linter.unusedVariables false
--newlaws

theorem rd_nack {W : World} {cs : List Value} (z : Rd Try.prog W 45 cs) : ∃ x : NkV, cs = x.cells ∧ True := by
  obtain ⟨hl, hf⟩ := Rd.field Try.underlying45 z
  have c4 : Try.prog.cellsOf 45 = 4 := by kernel_rfl
  have c1 : Try.prog.cellsOf 3 = 1 := by kernel_rfl
  have cb : Try.prog.cellsOf 4 = 1 := by kernel_rfl
  rw [c4] at hl
  obtain ⟨x0, x1, x2, x3, rfl⟩ := list4 hl
  obtain ⟨a, ha, -⟩ := Rd.int Try.underlying3 (hf 0 _ rfl)
  obtain ⟨b, hb⟩ := Rd.bool Try.underlying4 (hf 1 _ rfl)
  obtain ⟨p, hp, -⟩ := Rd.int Try.underlying3 (hf 2 _ rfl)
  obtain ⟨q, hq, -⟩ := Rd.int Try.underlying3 (hf 3 _ rfl)
  simp [c1, cb] at ha hb hp hq
  subst ha hb hp hq
  exact ⟨⟨a, b, p, q⟩, rfl, trivial⟩
theorem rd_nacks {W : World} {A : Option Addr} {n c : Nat} (z : Rd Try.prog W 22 [.slice A n c]) : ∃ l : List NkV, l.length = n ∧ n ≤ c ∧ c ≤ maxLen ∧ Sl W A (l.flatMap NkV.cells) := by
  have c4 : Try.prog.cellsOf 45 = 4 := by kernel_rfl
  obtain ⟨xs, h1, h2, h3, h4, h5⟩ := Rd.rows NkV.cells (fun _ => True) Try.underlying22 (by rw [c4]; decide) (fun r hr => rd_nack hr) (fun x => c4.symm) z
  exact ⟨xs, h1, h2, h3, h5⟩
theorem rd_status {W : World} {cs : List Value} (z : Rd Try.prog W 24 cs) : ∃ (ack : Int) (A : Option Addr) (n c : Nat) (l : List NkV), cs = [.int .i64 ack, .slice A n c] ∧ l.length = n ∧ n ≤ c ∧ c ≤ maxLen ∧ Sl W A (l.flatMap NkV.cells) := by
  obtain ⟨hl, hf⟩ := Rd.field Try.underlying24 z
  have c2 : Try.prog.cellsOf 24 = 2 := by kernel_rfl
  have c1 : Try.prog.cellsOf 3 = 1 := by kernel_rfl
  have c0 : Try.prog.cellsOf 22 = 1 := by kernel_rfl
  rw [c2] at hl
  obtain ⟨x0, x1, rfl⟩ := list2 hl
  obtain ⟨ack, hlc, -⟩ := Rd.int Try.underlying3 (hf 0 _ rfl)
  have zb := hf 1 _ rfl
  obtain ⟨A, n, c, hb⟩ := Rd.sliceV Try.underlying22 zb
  rw [hb] at zb
  simp [c1, c0] at hlc hb
  subst hlc hb
  obtain ⟨l, h1, h2, h3, h4⟩ := rd_nacks zb
  exact ⟨ack, A, n, c, l, rfl, h1, h2, h3, h4⟩
end Go.Proofs.Ytcieclifabbkjaa

/- Status reports: Decode against the document. -/
namespace Go.Proofs.Ytcieclifabbkjaa
open Go.RowKit
set_option linter.unusedSimpArgs false
set_option linter.unusedVariables false
--newlaws

end Go.Proofs.Ytcieclifabbkjaa

/- Status reports: Fit against the document. -/
namespace Go.Proofs.Ytcieclifabbkjaa
open Go.RowKit
set_option linter.unusedSimpArgs false
set_option linter.unusedVariables false
--newlaws

end Go.Proofs.Ytcieclifabbkjaa

/- Status reports: decoding undoes encoding, and the other way round (plain facts). -/
namespace Go.Proofs.Ytcieclifabbkjaa
open Go.RowKit
set_option linter.unusedSimpArgs false
set_option linter.unusedVariables false

end Go.Proofs.Ytcieclifabbkjaa

/- Status reports: the program's own comparison; decoding undoes encoding. -/
namespace Go.Proofs.Ytcieclifabbkjaa
open Go.RowKit
set_option linter.unusedSimpArgs false
set_option linter.unusedVariables false
--newlaws

set_option maxRecDepth 100000 in
theorem eqNk (A B : Option Addr) (n c m d : Nat) (l k : List NkV) (w : World) (hx : Sl w A (l.flatMap NkV.cells)) (hy : Sl w B (k.flatMap NkV.cells)) (hl : l.length = n) (hk : k.length = m) (hn : n ≤ 9223372036854775807) :
    Calls Try.prog 50 #[.slice A n c, .slice B m d] w (SX.Ret fun v w' => v = .bool (decide (l = k)) ∧ SX.St w [] w' []) := by
  have hs := SX.St.start w
  refine Z.enter Try.func50 rfl Try.ntmps50 rfl rfl ?_
  refine Z.seq ?_
  refine Z.region ?_
  refine Z.lb 1 rfl ?_
  refine Z.lnil ?_
  refine Z.only [0, 1] rfl ?_
  refine Z.nthen ?_
  refine Z.seq ?_
  refine Z.seq ?_
  refine Z.region ?_
  refine Z.lb 1 rfl ?_
  refine Z.l rfl rfl (by rfl) (Z.keepS hs) (Z.Yd.lenS rfl Try.underlying22) ?_
  refine Z.lb 1 rfl ?_
  refine Z.l rfl rfl (by rfl) (Z.keepS hs) (Z.Yd.lenS rfl Try.underlying22) ?_
  refine Z.lb 1 rfl ?_
  refine Z.lnil ?_
  refine Z.only [0, 1, 10] rfl ?_
  refine Z.nthen ?_
  refine Z.cond rfl (fun hc1 => ?_) (fun hc1 => ?_)
  · first
      | (exfalso; simp at hc1 <;> omega)
      | (
        (try simp at hc1)
        refine Z.seq ?_
        refine Z.region ?_
        refine Z.lb 1 rfl ?_
        refine Z.lnil ?_
        refine Z.only [4] rfl ?_
        refine Z.nthen ?_
        refine Z.ret ?_
        repeat (first | refine Z.rthen ?_ | refine Z.rblock ?_ | refine Z.rscope ?_)
        -- ret#0
        refine Z.out1 (by exact ⟨rfl, trivial⟩) ?_
        refine ⟨_, rfl, ?_, hs.sub (List.nil_sublist _)⟩
        first
        | exact congrArg Value.bool (decide_eq_false (fun h => take_ne hxi hyi (fun e => by subst e; simp_all) h)).symm
        | exact congrArg Value.bool (decide_eq_true ht).symm
        | exact congrArg Value.bool (decide_eq_false (fun h => by have hlk := congrArg List.length h; simp_all)).symm
        )
  · first
      | (exfalso; simp at hc1 <;> omega)
      | (
        (try simp at hc1)
        refine Z.skip ?_
        refine Z.nthen ?_
        refine Z.seq ?_
        refine Z.seq ?_
        refine Z.region ?_
        refine Z.lb 1 rfl ?_
        refine Z.l rfl rfl (by rfl) (Z.keepS hs) (Z.Yd.lenS rfl Try.underlying22) ?_
        refine Z.lb 1 rfl ?_
        refine Z.lnil ?_
        refine Z.only [0, 1, 12, 13] rfl ?_
        refine Z.nthen ?_
        refine Z.block ?_
        refine Z.loopk (ι := Nat) [0, 1, 12] rfl (fun i => [(13, [], .int .i64 (i : Int))]) (fun i wr => (i ≤ n ∧ n = m ∧ l.take i = k.take i) ∧ SX.St w [] wr []) (fun i => n - i) 0 (by refine ⟨?_, trivial⟩ <;> (first | rfl | (refine Z.lookv rfl ?_; simp; done) | (refine Z.lookv rfl ?_; simp; omega))) ⟨⟨by omega, by first | omega | simp_all, rfl⟩, hs⟩ ?_
        clear hs
        rintro i w4 ⟨⟨hi, hnm, ht⟩, hs⟩
        refine Z.only [0, 1, 12, 13] rfl ?_
        refine Z.seq ?_
        refine Z.region ?_
        refine Z.lb 1 rfl ?_
        refine Z.lnil ?_
        refine Z.only [0, 1, 12, 13, 14] rfl ?_
        refine Z.nthen ?_
        refine Z.seq ?_
        refine Z.cond rfl (fun hc4 => ?_) (fun hc4 => ?_)
        · first
            | (exfalso; simp at hc4 <;> omega)
            | (
              (try simp at hc4)
              have hfl := nk_flat l
              have hfk := nk_flat k
              obtain ⟨b, off, rfl, hx2⟩ := hx.sx.some (by omega)
              obtain ⟨b', off', rfl, hy2⟩ := hy.sx.some (by omega)
              obtain ⟨x, hxi⟩ : ∃ f, l[i]? = some f := ⟨_, List.getElem?_eq_getElem (by omega)⟩
              obtain ⟨y, hyi⟩ : ∃ f, k[i]? = some f := ⟨_, List.getElem?_eq_getElem (by omega)⟩
              refine Z.skip ?_
              refine Z.nthen ?_
              refine Z.seq ?_
              refine Z.block ?_
              refine Z.seq ?_
              refine Z.region ?_
              refine Z.lb 2 rfl ?_
              refine Z.lnil ?_
              refine Z.only [0, 1, 5, 12, 13] rfl ?_
              refine Z.nthen ?_
              refine Z.seq ?_
              refine Z.drawK (fun _ => true) mixed hs ?_
              clear hs; intro wd6 hs
              refine Z.tb [0, 1] (by kernel_rfl) rfl ⟨_, hs, by first | (simp; done) | exact fun e he => List.mem_append_right _ he⟩ rfl ?_
              refine Z.t 2 rfl rfl rfl (by rfl) (by kernel_rfl) ⟨_, hs, by first | (simp; done) | exact fun e he => List.mem_append_right _ he⟩ (Z.Yd.elem rfl rfl Try.underlying22 Try.sizeOf45 (fun hG => ⟨(by first | omega | (have hG' := Z.gh rfl hG; simp at hG'; omega)), (by first | omega | (have hG' := Z.gh rfl hG; simp at hG'; omega))⟩)) ?_
              refine Z.t 3 rfl rfl rfl (by rfl) (by kernel_rfl) ⟨_, hs, by first | (simp; done) | exact fun e he => List.mem_append_right _ he⟩ (Z.Yd.loadA _ rfl Try.isAgg45 (fun _ => Z.cellsX x.cells hx2 nk_len hxi rfl) (by exact Try.sizeOf45)) ?_
              refine Z.tb [4, 5] (by kernel_rfl) rfl ⟨_, hs, by first | (simp; done) | exact fun e he => List.mem_append_right _ he⟩ rfl ?_
              refine Z.t 6 rfl rfl rfl (by rfl) (by kernel_rfl) ⟨_, hs, by first | (simp; done) | exact fun e he => List.mem_append_right _ he⟩ (Z.Yd.elem rfl rfl Try.underlying22 Try.sizeOf45 (fun hG => ⟨(by first | omega | (have hG' := Z.gh rfl hG; simp at hG'; omega)), (by first | omega | (have hG' := Z.gh rfl hG; simp at hG'; omega))⟩)) ?_
              refine Z.t 7 rfl rfl rfl (by rfl) (by kernel_rfl) ⟨_, hs, by first | (simp; done) | exact fun e he => List.mem_append_right _ he⟩ (Z.Yd.loadA _ rfl Try.isAgg45 (fun _ => Z.cellsX y.cells hy2 nk_len hyi rfl) (by exact Try.sizeOf45)) ?_
              refine Z.t 8 rfl rfl rfl (by rfl) (by kernel_rfl) ⟨_, hs, by first | (simp; done) | exact fun e he => List.mem_append_right _ he⟩ (Z.Yd.neA (.st (.fc 0 1 (.i) (.fc 1 1 (.b) (.fc 2 1 (.i) (.fc 3 1 (.i) (.fn)))))) rfl rfl rfl rfl (by kernel_rfl) (by kernel_rfl) rfl) ?_
              refine Z.td (by rfl) (by kernel_rfl) ?_
              refine Z.only [0, 1, 12, 13, 24] rfl ?_
              refine Z.nthen ?_
              refine Z.cond rfl (fun hc6 => ?_) (fun hc6 => ?_)
              · first
                  | (exfalso; simp at hc6 <;> omega)
                  | (
                    (try simp at hc6)
                    refine Z.seq ?_
                    refine Z.region ?_
                    refine Z.lb 1 rfl ?_
                    refine Z.lnil ?_
                    refine Z.only [4] rfl ?_
                    refine Z.nthen ?_
                    refine Z.ret ?_
                    repeat (first | refine Z.rthen ?_ | refine Z.rblock ?_ | refine Z.rscope ?_)
                    -- ret#1
                    refine Z.out1 (by exact ⟨rfl, trivial⟩) ?_
                    refine ⟨_, rfl, ?_, hs.sub (List.nil_sublist _)⟩
                    first
                    | exact congrArg Value.bool (decide_eq_false (fun h => take_ne hxi hyi (fun e => by subst e; simp_all) h)).symm
                    | exact congrArg Value.bool (decide_eq_true ht).symm
                    | exact congrArg Value.bool (decide_eq_false (fun h => by have hlk := congrArg List.length h; simp_all)).symm
                    )
              · first
                  | (exfalso; simp at hc6 <;> omega)
                  | (
                    (try simp at hc6)
                    refine Z.skip ?_
                    refine Z.nblock ?_
                    refine Z.nthen ?_
                    refine Z.region ?_
                    refine Z.l rfl rfl (by rfl) (Z.keepS hs) (Z.Yd.add rfl rfl (fun hG => Z.wi64 (by first | omega | (have hG' := Z.gh rfl hG; simp at hG'; omega)))) ?_
                    refine Z.lb 1 rfl ?_
                    refine Z.lnil ?_
                    refine Z.only [0, 1, 12, 13] rfl ?_
                    refine Z.nthen ?_
                    have hxy : x = y := by apply nk_ext <;> simp_all
                    subst hxy
                    exact Z.again (i + 1) (by refine ⟨?_, ?_, ?_, ?_, trivial⟩ <;> (first | rfl | (refine Z.lookv rfl ?_; simp; done) | (refine Z.lookv rfl ?_; simp; omega))) ⟨⟨by omega, hnm, by rw [← take_snoc hxi, ← take_snoc hyi, ht]⟩, hs⟩ (by omega)
                    )
              )
        · first
            | (exfalso; simp at hc4 <;> omega)
            | (
              (try simp at hc4)
              refine Z.exit ?_
              refine Z.xthen ?_
              refine Z.xthen ?_
              refine Z.xblock ?_
              refine Z.nthen ?_
              refine Z.seq ?_
              refine Z.region ?_
              obtain rfl : i = n := by omega
              rw [List.take_of_length_le (by omega), List.take_of_length_le (by omega)] at ht
              refine Z.l rfl rfl (by rfl) (Z.keepS hs) (Z.Yd.pure rfl) ?_
              refine Z.lnil ?_
              refine Z.only [4] rfl ?_
              refine Z.nthen ?_
              refine Z.ret ?_
              -- ret#2
              refine Z.out1 (by exact ⟨rfl, trivial⟩) ?_
              refine ⟨_, rfl, ?_, hs.sub (List.nil_sublist _)⟩
              first
              | exact congrArg Value.bool (decide_eq_false (fun h => take_ne hxi hyi (fun e => by subst e; simp_all) h)).symm
              | exact congrArg Value.bool (decide_eq_true ht).symm
              | exact congrArg Value.bool (decide_eq_false (fun h => by have hlk := congrArg List.length h; simp_all)).symm
              )
        )
theorem ssame_any (a1 a2 : Int) (A B : Option Addr) (n c m d : Nat) (l k : List NkV) (w : World) (hx : Sl w A (l.flatMap NkV.cells)) (hy : Sl w B (k.flatMap NkV.cells)) (hl : l.length = n) (hk : k.length = m) (hn : n ≤ 9223372036854775807) :
    Calls Try.prog 22 #[.agg #[.int .i64 a1, .slice A n c], .agg #[.int .i64 a2, .slice B m d]] w (SX.Ret fun v w' => v = .bool (decide (a1 = a2 ∧ l = k)) ∧ SX.St w [] w' []) := by
  have hs := SX.St.start w
  refine Z.enter Try.func22 rfl Try.ntmps22 rfl rfl ?_
  refine Z.seq ?_
  refine Z.region ?_
  refine Z.le rfl trivial ?_
  refine Z.ZO.box rfl rfl (by rfl) rfl rfl hs ?_
  clear hs; intro g2 w2 hs
  refine Z.le rfl trivial ?_
  refine Z.ZO.box rfl rfl (by rfl) rfl rfl hs ?_
  clear hs; intro g3 w3 hs
  refine Z.lb 1 rfl ?_
  refine Z.lnil ?_
  refine Z.only [2, 3] rfl ?_
  refine Z.nthen ?_
  refine Z.seq ?_
  refine Z.region ?_
  refine Z.l rfl rfl (by rfl) (Z.keepS hs) (Z.Yd.fieldA (m := 0) rfl (by kernel_rfl)) ?_
  refine Z.l rfl rfl (by rfl) (Z.keepS hs) (by first | exact Z.Yd.load rfl Try.isAgg3 (fun _ => Z.cellB (by first | ((repeat (first | exact List.mem_cons_self | refine List.mem_cons_of_mem _ ?_ | refine List.mem_append_right _ ?_)); done) | fail) rfl) | exact Z.Yd.load rfl Try.isAgg3 (fun _ => Z.cellO (by assumption) (by simp) (by assumption)) | fail "load 1.1") ?_
  refine Z.l rfl rfl (by rfl) (Z.keepS hs) (Z.Yd.fieldA (m := 0) rfl (by kernel_rfl)) ?_
  refine Z.l rfl rfl (by rfl) (Z.keepS hs) (by first | exact Z.Yd.load rfl Try.isAgg3 (fun _ => Z.cellB (by first | ((repeat (first | exact List.mem_cons_self | refine List.mem_cons_of_mem _ ?_ | refine List.mem_append_right _ ?_)); done) | fail) rfl) | exact Z.Yd.load rfl Try.isAgg3 (fun _ => Z.cellO (by assumption) (by simp) (by assumption)) | fail "load 1.3") ?_
  refine Z.lb 2 rfl ?_
  refine Z.split (s := 10) rfl (fun hsp10 => ?_) (fun hsp10 => ?_)
  · first
      | (exfalso; simp at hsp10 <;> omega)
      | (
        refine Z.yes (s := 10) (b := true) rfl hsp10 rfl ?_
        (try simp at hsp10)
        refine Z.l rfl rfl (by rfl) (Z.keepS hs) (Z.Yd.fieldA (m := 1) rfl (by kernel_rfl)) ?_
        refine Z.l rfl rfl (by rfl) (Z.keepS hs) (by first | exact Z.Yd.load rfl Try.isAgg22 (fun _ => Z.cellB (by first | ((repeat (first | exact List.mem_cons_self | refine List.mem_cons_of_mem _ ?_ | refine List.mem_append_right _ ?_)); done) | fail) rfl) | exact Z.Yd.load rfl Try.isAgg22 (fun _ => Z.cellO (by assumption) (by simp) (by assumption)) | fail "load 1.7") ?_
        refine Z.l rfl rfl (by rfl) (Z.keepS hs) (Z.Yd.fieldA (m := 1) rfl (by kernel_rfl)) ?_
        refine Z.l rfl rfl (by rfl) (Z.keepS hs) (by first | exact Z.Yd.load rfl Try.isAgg22 (fun _ => Z.cellB (by first | ((repeat (first | exact List.mem_cons_self | refine List.mem_cons_of_mem _ ?_ | refine List.mem_append_right _ ?_)); done) | fail) rfl) | exact Z.Yd.load rfl Try.isAgg22 (fun _ => Z.cellO (by assumption) (by simp) (by assumption)) | fail "load 1.9") ?_
        refine Z.yes (s := 10) (b := true) rfl rfl rfl ?_
        refine Z.le rfl (by exact ⟨rfl, trivial⟩) ?_
        refine Z.ZO.call rfl rfl (by rfl) rfl rfl Try.call50 rfl (eqNk A B n c m d l k _ (hx.st (hs.sub (List.nil_sublist _))) (hy.st (hs.sub (List.nil_sublist _))) hl hk hn) ?_
        rintro v1_10 w1_10 ⟨rfl, hy⟩
        replace hs := hs.call hy
        clear hy
        try simp only [List.cons_append, List.nil_append, List.append_nil] at hs
        refine Z.l rfl rfl (by rfl) (Z.keepS hs) (Z.Yd.pickT rfl rfl) ?_
        refine Z.lb 1 rfl ?_
        refine Z.lnil ?_
        refine Z.only [4] rfl ?_
        refine Z.nthen ?_
        refine Z.ret ?_
        -- ret#0
        refine Z.out1 (by exact ⟨rfl, trivial⟩) ?_
        exact ⟨_, rfl, by simp_all, hs.sub (List.nil_sublist _)⟩
        )
  · first
      | (exfalso; simp at hsp10 <;> omega)
      | (
        refine Z.yes (s := 10) (b := false) rfl hsp10 rfl ?_
        (try simp at hsp10)
        refine Z.ls rfl rfl rfl (by rfl) ?_
        refine Z.ls rfl rfl rfl (by rfl) ?_
        refine Z.ls rfl rfl rfl (by rfl) ?_
        refine Z.ls rfl rfl rfl (by rfl) ?_
        refine Z.ls rfl rfl rfl (by rfl) ?_
        refine Z.l rfl rfl (by rfl) (Z.keepS hs) (Z.Yd.pickF rfl rfl) ?_
        refine Z.lb 1 rfl ?_
        refine Z.lnil ?_
        refine Z.only [4] rfl ?_
        refine Z.nthen ?_
        refine Z.ret ?_
        -- ret#1
        refine Z.out1 (by exact ⟨rfl, trivial⟩) ?_
        exact ⟨_, rfl, by simp_all, hs.sub (List.nil_sublist _)⟩
        )
end Go.Proofs.Ytcieclifabbkjaa

/- Status reports: the iterator over the missing bytes of an SN. -/
namespace Go.Proofs.Ytcieclifabbkjaa
open Go.RowKit
set_option linter.unusedSimpArgs false
set_option linter.unusedVariables false
--newlaws

def AllA (x : NkV) (args : Array Value) (Lx : List SX.Ent) : Prop := (∃ i : Int, args = #[.int .i64 i, .agg x.cells.toArray]) ∧ Lx = []
set_option maxRecDepth 100000 in
theorem all_seq (g T n c co : Nat) (B : Option Addr) (l : List NkV) (hl : l.length = n) (hn : n ≤ 1000000) :
    SX.SeqC Try.prog 72 #[.pointer (some ⟨g, 0, none⟩)] AllA [SX.Ent.blk g T #[.slice B n c], SX.Ent.row (.slice B n co) 45 4 n (l.flatMap NkV.cells)] (fun _ _ => True) l := by
  intro lp w0 M I Ix W L0 _ hY hI hs
  replace hs := hs.rot
  refine Z.enter Try.func72 rfl Try.ntmps72 rfl rfl ?_
  refine Z.seq ?_
  refine Z.region ?_
  refine Z.l rfl rfl (by rfl) (Z.keepS hs) (by first | exact Z.Yd.load rfl Try.isAgg22 (fun _ => Z.cellB (by first | ((repeat (first | exact List.mem_cons_self | refine List.mem_cons_of_mem _ ?_ | refine List.mem_append_right _ ?_)); done) | fail) rfl) | exact Z.Yd.load rfl Try.isAgg22 (fun _ => Z.cellO (by assumption) (by simp) (by assumption)) | fail "load 0.0") ?_
  refine Z.l rfl rfl (by rfl) (Z.keepS hs) (Z.Yd.lenS rfl Try.underlying22) ?_
  refine Z.lb 1 rfl ?_
  refine Z.lnil ?_
  refine Z.only [0, 5, 6, 7] rfl ?_
  refine Z.nthen ?_
  refine Z.block ?_
  refine Z.loopk (ι := Nat × List SX.Ent) [0, 5, 6] rfl (fun j => [(7, [], .int .i64 (j.1 : Int))]) (fun j wr => (j.1 ≤ n ∧ I (l.take j.1) j.2) ∧ SX.St w0 M wr (SX.Ent.blk g T #[.slice B n c] :: SX.Ent.row (.slice B n co) 45 4 n (l.flatMap NkV.cells) :: j.2)) (fun j => n - j.1) (0, L0) (by refine ⟨?_, trivial⟩ <;> (first | rfl | (refine Z.lookv rfl ?_; simp; done) | (refine Z.lookv rfl ?_; simp; omega))) ⟨⟨Nat.zero_le _, hI⟩, hs⟩ ?_
  clear hs
  rintro ⟨j, L1⟩ w1 ⟨⟨hj, hi⟩, hs⟩
  refine Z.only [0, 5, 6, 7] rfl ?_
  (try dsimp only at hs)
  dsimp only at hj hi
  refine Z.seq ?_
  refine Z.region ?_
  refine Z.lb 1 rfl ?_
  refine Z.lnil ?_
  refine Z.only [0, 5, 6, 7, 8] rfl ?_
  refine Z.nthen ?_
  refine Z.seq ?_
  refine Z.cond rfl (fun hc1 => ?_) (fun hc1 => ?_)
  · first
      | (exfalso; simp at hc1 <;> omega)
      | (
        (try simp at hc1)
        have hlt : j < n := by omega
        obtain ⟨x, hxj⟩ : ∃ x, l[j]? = some x := ⟨_, List.getElem?_eq_getElem (by omega)⟩
        have hone := nk_one x
        obtain ⟨gB, cB, eB, -, -⟩ := row_form (j := 1) hs rfl (by omega)
        cases eB
        refine Z.skip ?_
        refine Z.nthen ?_
        refine Z.seq ?_
        refine Z.block ?_
        refine Z.seq ?_
        refine Z.region ?_
        refine Z.lb 1 rfl ?_
        refine Z.l rfl rfl (by rfl) (Z.keepS hs) (Z.Yd.elem rfl rfl Try.underlying22 Try.sizeOf45 (fun hG => ⟨(by first | omega | (have hG' := Z.gh rfl hG; simp at hG'; omega)), (by first | omega | (have hG' := Z.gh rfl hG; simp at hG'; omega))⟩)) ?_
        refine Z.l rfl rfl (by rfl) (Z.keepS hs) (Z.Yd.loadA _ rfl Try.isAgg45 (fun _ => Z.cellsRf (by first | ((repeat (first | exact List.mem_cons_self | refine List.mem_cons_of_mem _ ?_ | refine List.mem_append_right _ ?_)); done) | fail) nk_len hxj rfl) (by exact Try.sizeOf45)) ?_
        refine Z.le rfl trivial ?_
        refine Z.ZO.alloc rfl rfl (by rfl) Try.zeroValue45 rfl hs ?_
        clear hs; intro g4 w4 hs
        refine Z.lb 1 rfl ?_
        refine Z.le rfl trivial ?_
        first | refine Z.ZO.storeA rfl rfl hs rfl rfl (by kernel_rfl) (by first | (simp [Value.oneCell']; done) | (refine Z.all_one ?_; assumption)) (by first | exact SX.at0 | exact SX.at1 | exact SX.at2 | exact SX.at3 | exact SX.at4 | exact SX.at5 | exact Z.at6 | exact Z.at7 | exact Z.at8 | exact Z.at9 | exact Z.at10 | exact Z.at11 | exact Z.at12) (by rfl) ?_ | refine Z.ZO.storeP rfl rfl hs rfl rfl (by kernel_rfl) (by first | (simp [Value.oneCell']; done) | (refine Z.all_one ?_; assumption)) (by first | exact SX.at0 | exact SX.at1 | exact SX.at2 | exact SX.at3 | exact SX.at4 | exact SX.at5 | exact Z.at6 | exact Z.at7 | exact Z.at8 | exact Z.at9 | exact Z.at10 | exact Z.at11 | exact Z.at12) (by first | decide | (simp; done) | (simp; omega)) ?_ | refine Z.ZO.storePR rfl rfl hs rfl rfl (by kernel_rfl) (by first | (simp [Value.oneCell']; done) | (refine Z.all_one ?_; assumption)) (by first | exact SX.at0 | exact SX.at1 | exact SX.at2 | exact SX.at3 | exact SX.at4 | exact SX.at5 | exact Z.at6 | exact Z.at7 | exact Z.at8 | exact Z.at9 | exact Z.at10 | exact Z.at11 | exact Z.at12) (by first | decide | (simp; done) | (simp; omega)) ?_
        clear hs; intro ws hs
        simp only [Nat.zero_add, Nat.add_zero, Nat.reduceAdd, Int.reduceToNat, Nat.reduceMul, List.set_cons_zero, List.set_cons_succ, List.setIfInBounds_toArray] at hs
        try simp only [Z.putL, Nat.zero_add] at hs
        refine Z.lnil ?_
        refine Z.only [0, 3, 4, 5, 6, 7] rfl ?_
        refine Z.nthen ?_
        refine Z.seq ?_
        refine Z.region ?_
        refine Z.lb 2 rfl ?_
        refine Z.l rfl rfl (by rfl) (Z.keepS hs) (Z.Yd.loadA _ rfl Try.isAgg45 (fun _ => Z.cellsB (cs := x.cells) (by first | ((repeat (first | exact List.mem_cons_self | refine List.mem_cons_of_mem _ ?_ | refine List.mem_append_right _ ?_)); done) | fail)) (by exact Try.sizeOf45)) ?_
        replace hs := SX.St.rot (L1 := [_, _, _]) hs
        refine Z.le rfl trivial ?_
        refine Z.ZO.yield rfl rfl (by rfl) rfl rfl rfl (hY _ (l.take j) x _ _ L1 [] hi (prefix_take hxj) ⟨⟨_, rfl⟩, rfl⟩ hs) ?_
        clear hs
        rintro e wy3_3 (⟨rfl, Ly3_3, hiy3_3, hs⟩ | ⟨rfl, Ly3_3, hiy3_3, hs⟩)
        · refine ⟨_, rfl, ?_⟩
          refine Z.lb 1 rfl ?_
          refine Z.lnil ?_
          refine Z.only [0, 5, 6, 7, 16] rfl ?_
          refine Z.nthen ?_
          refine Z.cond rfl (fun hc3 => ?_) (fun hc3 => ?_)
          · first
              | (exfalso; simp at hc3 <;> omega)
              | (
                (try simp at hc3)
                refine Z.ret ?_
                repeat (first | refine Z.rthen ?_ | refine Z.rblock ?_ | refine Z.rscope ?_)
                -- ret#0
                refine Z.out0 trivial ?_
                first
                | exact ⟨⟨_, rfl⟩, Ly3_3, .inr hiy3_3, SX.St.rot (L1 := [_, _]) (SX.St.rot (L2 := [_, _, _]) hs).tl⟩
                | exact ⟨⟨_, rfl⟩, L1, .inl (by rwa [List.take_of_length_le (by omega)] at hi), SX.St.rot (L1 := [_, _]) hs⟩
                )
          · first
              | (exfalso; simp at hc3 <;> omega)
              | (
                (try simp at hc3)
                refine Z.skip ?_
                refine Z.nblock ?_
                refine Z.nthen ?_
                refine Z.region ?_
                refine Z.l rfl rfl (by rfl) (Z.keepS hs) (Z.Yd.add rfl rfl (fun hG => Z.wi64 (by first | omega | (have hG' := Z.gh rfl hG; simp at hG'; omega)))) ?_
                refine Z.lb 1 rfl ?_
                refine Z.lnil ?_
                refine Z.only [0, 5, 6, 7] rfl ?_
                refine Z.nthen ?_
                exact Z.again (j + 1, Ly3_3) (by refine ⟨?_, ?_, ?_, ?_, trivial⟩ <;> (first | rfl | (refine Z.lookv rfl ?_; simp; done) | (refine Z.lookv rfl ?_; simp; omega))) ⟨⟨by simp only; omega, by rw [← take_snoc hxj]; exact hiy3_3⟩, (SX.St.rot (L2 := [_, _, _]) hs).tl⟩ (by simp only; omega)
                )
        · refine ⟨_, rfl, ?_⟩
          refine Z.lb 1 rfl ?_
          refine Z.lnil ?_
          refine Z.only [0, 5, 6, 7, 16] rfl ?_
          refine Z.nthen ?_
          refine Z.cond rfl (fun hc3 => ?_) (fun hc3 => ?_)
          · first
              | (exfalso; simp at hc3 <;> omega)
              | (
                (try simp at hc3)
                refine Z.ret ?_
                repeat (first | refine Z.rthen ?_ | refine Z.rblock ?_ | refine Z.rscope ?_)
                -- ret#1
                refine Z.out0 trivial ?_
                first
                | exact ⟨⟨_, rfl⟩, Ly3_3, .inr hiy3_3, SX.St.rot (L1 := [_, _]) (SX.St.rot (L2 := [_, _, _]) hs).tl⟩
                | exact ⟨⟨_, rfl⟩, L1, .inl (by rwa [List.take_of_length_le (by omega)] at hi), SX.St.rot (L1 := [_, _]) hs⟩
                )
          · first
              | (exfalso; simp at hc3 <;> omega)
              | (
                (try simp at hc3)
                refine Z.skip ?_
                refine Z.nblock ?_
                refine Z.nthen ?_
                refine Z.region ?_
                refine Z.l rfl rfl (by rfl) (Z.keepS hs) (Z.Yd.add rfl rfl (fun hG => Z.wi64 (by first | omega | (have hG' := Z.gh rfl hG; simp at hG'; omega)))) ?_
                refine Z.lb 1 rfl ?_
                refine Z.lnil ?_
                refine Z.only [0, 5, 6, 7] rfl ?_
                refine Z.nthen ?_
                exact Z.again (j + 1, Ly3_3) (by refine ⟨?_, ?_, ?_, ?_, trivial⟩ <;> (first | rfl | (refine Z.lookv rfl ?_; simp; done) | (refine Z.lookv rfl ?_; simp; omega))) ⟨⟨by simp only; omega, by rw [← take_snoc hxj]; exact hiy3_3⟩, (SX.St.rot (L2 := [_, _, _]) hs).tl⟩ (by simp only; omega)
                )
        )
  · first
      | (exfalso; simp at hc1 <;> omega)
      | (
        (try simp at hc1)
        refine Z.exit ?_
        refine Z.xthen ?_
        refine Z.xthen ?_
        refine Z.xblock ?_
        -- ret#2
        refine Z.out0n trivial ?_
        first
        | exact ⟨⟨_, rfl⟩, Ly3_3, .inr hiy3_3, SX.St.rot (L1 := [_, _]) (SX.St.rot (L2 := [_, _, _]) hs).tl⟩
        | exact ⟨⟨_, rfl⟩, L1, .inl (by rwa [List.take_of_length_le (by omega)] at hi), SX.St.rot (L1 := [_, _]) hs⟩
        )
theorem all_iter (B : Option Addr) (n c : Nat) (w : World) :
    Calls Try.prog 52 #[.slice B n c] w (SX.Ret fun r w' => ∃ g, r = .func (.func 72) #[] #[.pointer (some ⟨g, 0, none⟩)] ∧ SX.St w [] w' [SX.Ent.blk g 22 #[.slice B n c]]) := by
  have hs := SX.St.start w
  refine Z.enter Try.func52 rfl Try.ntmps52 rfl rfl ?_
  refine Z.seq ?_
  refine Z.region ?_
  refine Z.le rfl trivial ?_
  refine Z.ZO.box rfl rfl (by rfl) rfl rfl hs ?_
  clear hs; intro g1 w1 hs
  refine Z.lb 1 rfl ?_
  refine Z.lnil ?_
  refine Z.only [1] rfl ?_
  refine Z.nthen ?_
  refine Z.seq ?_
  refine Z.region ?_
  refine Z.lb 2 rfl ?_
  refine Z.lnil ?_
  refine Z.only [2] rfl ?_
  refine Z.nthen ?_
  refine Z.ret ?_
  -- ret#0
  refine Z.out1 (by exact ⟨rfl, trivial⟩) ?_
  exact ⟨_, rfl, _, rfl, hs⟩
/-- the missing bytes of an SN -/
def rgOf (x : NkV) : Int × Int := if x.part = true then (x.lo, x.hi) else (0, 32767)
def rgs (sn : Int) (l : List NkV) : List (Int × Int) := (l.filter fun x => x.sn == sn).map rgOf
theorem rgs_snoc (sn : Int) (l : List NkV) (x : NkV) : rgs sn (l ++ [x]) = if x.sn = sn then rgs sn l ++ [rgOf x] else rgs sn l := by
  unfold rgs
  rw [List.filter_append, List.map_append]
  by_cases h : x.sn = sn <;> simp [h]
theorem rgs_pre {sn : Int} {l m : List NkV} (h : l <+: m) : rgs sn l <+: rgs sn m := by
  obtain ⟨t, rfl⟩ := h
  exact ⟨rgs sn t, by simp [rgs]⟩
def RgA (p : Int × Int) (args : Array Value) (Lx : List SX.Ent) : Prop := args = #[.int .i64 p.1, .int .i64 p.2] ∧ Lx = []
set_option maxHeartbeats 1000000 in
set_option maxRecDepth 100000 in
theorem ranges_seq (go gs To Ts n cp co : Nat) (B : Option Addr) (l : List NkV) (sn : Int) (hl : l.length = n) (hn : n ≤ 1000000) :
    SX.SeqC Try.prog 51 #[.pointer (some ⟨go, 0, none⟩), .pointer (some ⟨gs, 0, none⟩)] RgA
      [SX.Ent.blk go To #[.slice B n cp], SX.Ent.blk gs Ts #[.int .i64 sn], SX.Ent.row (.slice B n co) 45 4 n (l.flatMap NkV.cells)] (fun _ _ => True) (rgs sn l) := by
  intro lp w0 M I Ix W L0 _ hY hI hs
  replace hs := hs.rot
  refine Z.enterM Try.func51 rfl Try.ntmps51 rfl rfl ?_
  refine Z.seq ?_
  refine Z.region ?_
  refine Z.le rfl trivial ?_
  refine Z.ZO.box rfl rfl (by rfl) rfl rfl hs ?_
  clear hs; intro g3 w3 hs
  refine Z.lnil ?_
  refine Z.only [1, 2, 3] rfl ?_
  refine Z.nthen ?_
  refine Z.scope ?_
  refine Z.seq ?_
  refine Z.label ?_
  refine Z.nthen ?_
  refine Z.seq ?_
  refine Z.region ?_
  refine Z.l rfl rfl (by rfl) (Z.keepS hs) (by first | exact Z.Yd.load rfl Try.isAgg22 (fun _ => Z.cellB (by first | ((repeat (first | exact List.mem_cons_self | refine List.mem_cons_of_mem _ ?_ | refine List.mem_append_right _ ?_)); done) | fail) rfl) | exact Z.Yd.load rfl Try.isAgg22 (fun _ => Z.cellO (by assumption) (by simp) (by assumption)) | fail "load 1.0") ?_
  refine Z.le rfl trivial ?_
  refine Z.ZO.call rfl rfl (by rfl) rfl rfl Try.call52 rfl (all_iter B n cp _) ?_
  rintro v1_1 w1_1 ⟨ga, rfl, hy⟩
  replace hs := hs.call hy
  clear hy
  try simp only [List.cons_append, List.nil_append, List.append_nil] at hs
  refine Z.lnil ?_
  refine Z.only [2, 3, 7] rfl ?_
  refine Z.nthen ?_
  refine Z.block ?_
  replace hs := (SX.St.selT (L1 := [_, _, _, _, _]) hs [1, 2, 3, 0, 4] (by decide))
  replace hs := SX.St.swap (L1 := []) (L2 := [_, _, _]) (L3 := L0 ++ [_, _]) (SX.St.swap (L1 := [_, _]) (L2 := [_, _, _] ++ L0) (L3 := []) (by simpa using SX.St.swap (L1 := [_, _, _]) (L2 := [_, _]) (L3 := L0) hs))
  refine Z.rangeFunc (ps := [8, 9]) (L0 := SX.Ent.blk g3 _ _ :: SX.Ent.blk go To #[.slice B n cp] :: SX.Ent.blk gs Ts #[.int .i64 sn] :: L0) (all_seq ga _ n cp co B l hl hn) rfl Try.call72 (hs) trivial (by rintro x args Lx ⟨⟨i, rfl⟩, rfl⟩; rfl) rfl (fun pre L => ∃ L', L = SX.Ent.blk g3 95 #[.func (.yield lp) #[] #[]] :: SX.Ent.blk go To #[.slice B n cp] :: SX.Ent.blk gs Ts #[.int .i64 sn] :: L' ∧ I (rgs sn pre) L') (fun c L => c = .exit 0 ∧ ∃ L', L = SX.Ent.blk g3 95 #[.func (.yield lp) #[] #[]] :: SX.Ent.blk go To #[.slice B n cp] :: SX.Ent.blk gs Ts #[.int .i64 sn] :: L' ∧ Ix L') ⟨L0, rfl, hI⟩ ?_ ?_ ?_
  · clear hs
    rintro l0 Z0 pre x args W0 L0 Lx ⟨L', rfl, hi⟩ hpre ⟨⟨ix, rfl⟩, rfl⟩ hs
    refine ⟨_, rfl, ?_⟩
    refine Z.region ?_
    have hone := nk_one x
    have hpx := rgs_pre (sn := sn) hpre
    have hpr := rgs_snoc sn pre x
    refine Z.le rfl trivial ?_
    refine Z.ZO.alloc rfl rfl (by rfl) Try.zeroValue45 rfl hs ?_
    clear hs; intro g5 w5 hs
    refine Z.le rfl trivial ?_
    first | refine Z.ZO.storeA rfl rfl hs rfl rfl (by kernel_rfl) (by first | (simp [Value.oneCell']; done) | (refine Z.all_one ?_; assumption)) (by first | exact SX.at0 | exact SX.at1 | exact SX.at2 | exact SX.at3 | exact SX.at4 | exact SX.at5 | exact Z.at6 | exact Z.at7 | exact Z.at8 | exact Z.at9 | exact Z.at10 | exact Z.at11 | exact Z.at12) (by rfl) ?_ | refine Z.ZO.storeP rfl rfl hs rfl rfl (by kernel_rfl) (by first | (simp [Value.oneCell']; done) | (refine Z.all_one ?_; assumption)) (by first | exact SX.at0 | exact SX.at1 | exact SX.at2 | exact SX.at3 | exact SX.at4 | exact SX.at5 | exact Z.at6 | exact Z.at7 | exact Z.at8 | exact Z.at9 | exact Z.at10 | exact Z.at11 | exact Z.at12) (by first | decide | (simp; done) | (simp; omega)) ?_ | refine Z.ZO.storePR rfl rfl hs rfl rfl (by kernel_rfl) (by first | (simp [Value.oneCell']; done) | (refine Z.all_one ?_; assumption)) (by first | exact SX.at0 | exact SX.at1 | exact SX.at2 | exact SX.at3 | exact SX.at4 | exact SX.at5 | exact Z.at6 | exact Z.at7 | exact Z.at8 | exact Z.at9 | exact Z.at10 | exact Z.at11 | exact Z.at12) (by first | decide | (simp; done) | (simp; omega)) ?_
    clear hs; intro ws hs
    simp only [Nat.zero_add, Nat.add_zero, Nat.reduceAdd, Int.reduceToNat, Nat.reduceMul, List.set_cons_zero, List.set_cons_succ, List.setIfInBounds_toArray] at hs
    try simp only [Z.putL, Nat.zero_add] at hs
    refine Z.lnil ?_
    refine Z.only [2, 3, 5] rfl ?_
    refine Z.nthen ?_
    refine Z.assigned (SX.Ent.blk g5 45 #[.int .i64 x.sn, .bool x.part, .int .i64 x.lo, .int .i64 x.hi] :: SX.Ent.blk g3 95 #[.func (.yield lp) #[] #[]] :: SX.Ent.blk go To #[.slice B n cp] :: SX.Ent.blk gs Ts #[.int .i64 sn] :: L') hs ?_
    clear hs
    intro Wb0 Zb0 hs
    refine Z.block ?_
    refine Z.seq ?_
    refine Z.seq ?_
    refine Z.region ?_
    simp only [List.cons_append] at hs
    refine Z.l rfl rfl (by rfl) (Z.keepS hs) (Z.Yd.fieldA (m := 0) rfl (by kernel_rfl)) ?_
    refine Z.l rfl rfl (by rfl) (Z.keepS hs) (by first | exact Z.Yd.load rfl Try.isAgg3 (fun _ => Z.cellB (by first | ((repeat (first | exact List.mem_cons_self | refine List.mem_cons_of_mem _ ?_ | refine List.mem_append_right _ ?_)); done) | fail) rfl) | exact Z.Yd.load rfl Try.isAgg3 (fun _ => Z.cellO (by assumption) (by simp) (by assumption)) | fail "load 3.1") ?_
    refine Z.l rfl rfl (by rfl) (Z.keepS hs) (by first | exact Z.Yd.load rfl Try.isAgg3 (fun _ => Z.cellB (by first | ((repeat (first | exact List.mem_cons_self | refine List.mem_cons_of_mem _ ?_ | refine List.mem_append_right _ ?_)); done) | fail) rfl) | exact Z.Yd.load rfl Try.isAgg3 (fun _ => Z.cellO (by assumption) (by simp) (by assumption)) | fail "load 3.2") ?_
    refine Z.lb 1 rfl ?_
    refine Z.lnil ?_
    refine Z.only [3, 5, 13] rfl ?_
    refine Z.nthen ?_
    refine Z.cond rfl (fun hc3 => ?_) (fun hc3 => ?_)
    · first
        | (exfalso; simp at hc3 <;> omega)
        | (
          (try simp at hc3)
          refine Z.exit ?_
          refine Z.xthen ?_
          refine Z.xblock ?_
          first
          | exact Z.rnorm _ ⟨Ly6_5, rfl, by rw [hpr]; exact hiy6_5⟩ ((SX.St.swap (L2 := [_, _, _, _]) hs).tl)
          | exact Z.rnorm _ ⟨L', rfl, by rw [hpr, if_neg (by assumption)]; exact hi⟩ hs.tl
          )
    · first
        | (exfalso; simp at hc3 <;> omega)
        | (
          (try simp at hc3)
          refine Z.skip ?_
          refine Z.nthen ?_
          refine Z.seq ?_
          refine Z.seq ?_
          refine Z.region ?_
          refine Z.l rfl rfl (by rfl) (Z.keepS hs) (Z.Yd.fieldA (m := 1) rfl (by kernel_rfl)) ?_
          refine Z.l rfl rfl (by rfl) (Z.keepS hs) (by first | exact Z.Yd.load rfl Try.isAgg4 (fun _ => Z.cellB (by first | ((repeat (first | exact List.mem_cons_self | refine List.mem_cons_of_mem _ ?_ | refine List.mem_append_right _ ?_)); done) | fail) rfl) | exact Z.Yd.load rfl Try.isAgg4 (fun _ => Z.cellO (by assumption) (by simp) (by assumption)) | fail "load 4.1") ?_
          refine Z.lb 1 rfl ?_
          refine Z.lnil ?_
          refine Z.only [3, 5, 16] rfl ?_
          refine Z.nthen ?_
          refine Z.cond rfl (fun hc4 => ?_) (fun hc4 => ?_)
          · first
              | (exfalso; simp at hc4 <;> omega)
              | (
                (try simp at hc4)
                refine Z.region ?_
                refine Z.l rfl rfl (by rfl) (Z.keepS hs) (Z.Yd.fieldA (m := 2) rfl (by kernel_rfl)) ?_
                refine Z.le rfl trivial ?_
                first | refine Z.ZO.store rfl rfl hs Try.sizeOf3 rfl rfl rfl (by first | exact SX.at0 | exact SX.at1 | exact SX.at2 | exact SX.at3 | exact SX.at4 | exact SX.at5 | exact Z.at6 | exact Z.at7 | exact Z.at8 | exact Z.at9 | exact Z.at10 | exact Z.at11 | exact Z.at12) (by first | (simp; done) | (simp; omega)) ?_ | refine Z.ZO.storeR rfl rfl hs Try.sizeOf3 rfl rfl rfl (by first | exact SX.at0 | exact SX.at1 | exact SX.at2 | exact SX.at3 | exact SX.at4 | exact SX.at5 | exact Z.at6 | exact Z.at7 | exact Z.at8 | exact Z.at9 | exact Z.at10 | exact Z.at11 | exact Z.at12) (by first | omega | (simp [ints_length]; done) | (simp [ints_length]; omega)) ?_
                clear hs; intro ws hs
                simp only [Nat.zero_add, Nat.add_zero, Nat.reduceAdd, Int.reduceToNat, Nat.reduceMul, List.set_cons_zero, List.set_cons_succ, List.setIfInBounds_toArray] at hs
                refine Z.l rfl rfl (by rfl) (Z.keepS hs) (Z.Yd.fieldA (m := 3) rfl (by kernel_rfl)) ?_
                refine Z.le rfl trivial ?_
                first | refine Z.ZO.store rfl rfl hs Try.sizeOf3 rfl rfl rfl (by first | exact SX.at0 | exact SX.at1 | exact SX.at2 | exact SX.at3 | exact SX.at4 | exact SX.at5 | exact Z.at6 | exact Z.at7 | exact Z.at8 | exact Z.at9 | exact Z.at10 | exact Z.at11 | exact Z.at12) (by first | (simp; done) | (simp; omega)) ?_ | refine Z.ZO.storeR rfl rfl hs Try.sizeOf3 rfl rfl rfl (by first | exact SX.at0 | exact SX.at1 | exact SX.at2 | exact SX.at3 | exact SX.at4 | exact SX.at5 | exact Z.at6 | exact Z.at7 | exact Z.at8 | exact Z.at9 | exact Z.at10 | exact Z.at11 | exact Z.at12) (by first | omega | (simp [ints_length]; done) | (simp [ints_length]; omega)) ?_
                clear hs; intro ws hs
                simp only [Nat.zero_add, Nat.add_zero, Nat.reduceAdd, Int.reduceToNat, Nat.reduceMul, List.set_cons_zero, List.set_cons_succ, List.setIfInBounds_toArray] at hs
                refine Z.lnil ?_
                refine Z.only [3, 5] rfl ?_
                refine Z.nthen ?_
                refine Z.seq ?_
                refine Z.region ?_
                refine Z.l rfl rfl (by rfl) (Z.keepS hs) (by first | exact Z.Yd.load rfl Try.isAgg95 (fun _ => Z.cellB (by first | ((repeat (first | exact List.mem_cons_self | refine List.mem_cons_of_mem _ ?_ | refine List.mem_append_right _ ?_)); done) | fail) rfl) | exact Z.Yd.load rfl Try.isAgg95 (fun _ => Z.cellO (by assumption) (by simp) (by assumption)) | fail "load 6.0") ?_
                refine Z.l rfl rfl (by rfl) (Z.keepS hs) (Z.Yd.fieldA (m := 2) rfl (by kernel_rfl)) ?_
                refine Z.l rfl rfl (by rfl) (Z.keepS hs) (by first | exact Z.Yd.load rfl Try.isAgg3 (fun _ => Z.cellB (by first | ((repeat (first | exact List.mem_cons_self | refine List.mem_cons_of_mem _ ?_ | refine List.mem_append_right _ ?_)); done) | fail) rfl) | exact Z.Yd.load rfl Try.isAgg3 (fun _ => Z.cellO (by assumption) (by simp) (by assumption)) | fail "load 6.2") ?_
                refine Z.l rfl rfl (by rfl) (Z.keepS hs) (Z.Yd.fieldA (m := 3) rfl (by kernel_rfl)) ?_
                refine Z.l rfl rfl (by rfl) (Z.keepS hs) (by first | exact Z.Yd.load rfl Try.isAgg3 (fun _ => Z.cellB (by first | ((repeat (first | exact List.mem_cons_self | refine List.mem_cons_of_mem _ ?_ | refine List.mem_append_right _ ?_)); done) | fail) rfl) | exact Z.Yd.load rfl Try.isAgg3 (fun _ => Z.cellO (by assumption) (by simp) (by assumption)) | fail "load 6.4") ?_
                rw [if_pos (by assumption)] at hpr
                rw [hpr] at hpx
                replace hs := SX.St.swap (L1 := [_, _, _, _]) hs
                refine Z.le rfl trivial ?_
                refine Z.ZO.yieldIn rfl rfl (by rfl) rfl rfl rfl (hY _ (rgs sn pre) (rgOf x) _ _ L' [] hi hpx ⟨by unfold rgOf; simp_all, rfl⟩ hs) ?_
                clear hs
                rintro e wy6_5 (⟨rfl, Ly6_5, hiy6_5, hs⟩ | ⟨rfl, Ly6_5, hiy6_5, hs⟩)
                · refine ⟨_, rfl, ?_⟩
                  refine Z.lb 1 rfl ?_
                  refine Z.lnil ?_
                  refine Z.only [25] rfl ?_
                  refine Z.nthen ?_
                  refine Z.cond rfl (fun hc6 => ?_) (fun hc6 => ?_)
                  · first
                      | (exfalso; simp at hc6 <;> omega)
                      | (
                        (try simp at hc6)
                        refine Z.exit ?_
                        refine Z.xblockn rfl ?_
                        exact Z.rexit _ ⟨rfl, Ly6_5, rfl, hiy6_5⟩ ((SX.St.swap (L2 := [_, _, _, _]) hs).tl)
                        )
                  · first
                      | (exfalso; simp at hc6 <;> omega)
                      | (
                        (try simp at hc6)
                        refine Z.skip ?_
                        refine Z.nblock ?_
                        first
                        | exact Z.rnorm _ ⟨Ly6_5, rfl, by rw [hpr]; exact hiy6_5⟩ ((SX.St.swap (L2 := [_, _, _, _]) hs).tl)
                        | exact Z.rnorm _ ⟨L', rfl, by rw [hpr, if_neg (by assumption)]; exact hi⟩ hs.tl
                        )
                · refine ⟨_, rfl, ?_⟩
                  refine Z.lb 1 rfl ?_
                  refine Z.lnil ?_
                  refine Z.only [25] rfl ?_
                  refine Z.nthen ?_
                  refine Z.cond rfl (fun hc6 => ?_) (fun hc6 => ?_)
                  · first
                      | (exfalso; simp at hc6 <;> omega)
                      | (
                        (try simp at hc6)
                        refine Z.exit ?_
                        refine Z.xblockn rfl ?_
                        exact Z.rexit _ ⟨rfl, Ly6_5, rfl, hiy6_5⟩ ((SX.St.swap (L2 := [_, _, _, _]) hs).tl)
                        )
                  · first
                      | (exfalso; simp at hc6 <;> omega)
                      | (
                        (try simp at hc6)
                        refine Z.skip ?_
                        refine Z.nblock ?_
                        first
                        | exact Z.rnorm _ ⟨Ly6_5, rfl, by rw [hpr]; exact hiy6_5⟩ ((SX.St.swap (L2 := [_, _, _, _]) hs).tl)
                        | exact Z.rnorm _ ⟨L', rfl, by rw [hpr, if_neg (by assumption)]; exact hi⟩ hs.tl
                        )
                )
          · first
              | (exfalso; simp at hc4 <;> omega)
              | (
                (try simp at hc4)
                refine Z.skip ?_
                refine Z.nthen ?_
                refine Z.seq ?_
                refine Z.region ?_
                refine Z.l rfl rfl (by rfl) (Z.keepS hs) (by first | exact Z.Yd.load rfl Try.isAgg95 (fun _ => Z.cellB (by first | ((repeat (first | exact List.mem_cons_self | refine List.mem_cons_of_mem _ ?_ | refine List.mem_append_right _ ?_)); done) | fail) rfl) | exact Z.Yd.load rfl Try.isAgg95 (fun _ => Z.cellO (by assumption) (by simp) (by assumption)) | fail "load 6.0") ?_
                refine Z.l rfl rfl (by rfl) (Z.keepS hs) (Z.Yd.fieldA (m := 2) rfl (by kernel_rfl)) ?_
                refine Z.l rfl rfl (by rfl) (Z.keepS hs) (by first | exact Z.Yd.load rfl Try.isAgg3 (fun _ => Z.cellB (by first | ((repeat (first | exact List.mem_cons_self | refine List.mem_cons_of_mem _ ?_ | refine List.mem_append_right _ ?_)); done) | fail) rfl) | exact Z.Yd.load rfl Try.isAgg3 (fun _ => Z.cellO (by assumption) (by simp) (by assumption)) | fail "load 6.2") ?_
                refine Z.l rfl rfl (by rfl) (Z.keepS hs) (Z.Yd.fieldA (m := 3) rfl (by kernel_rfl)) ?_
                refine Z.l rfl rfl (by rfl) (Z.keepS hs) (by first | exact Z.Yd.load rfl Try.isAgg3 (fun _ => Z.cellB (by first | ((repeat (first | exact List.mem_cons_self | refine List.mem_cons_of_mem _ ?_ | refine List.mem_append_right _ ?_)); done) | fail) rfl) | exact Z.Yd.load rfl Try.isAgg3 (fun _ => Z.cellO (by assumption) (by simp) (by assumption)) | fail "load 6.4") ?_
                rw [if_pos (by assumption)] at hpr
                rw [hpr] at hpx
                replace hs := SX.St.swap (L1 := [_, _, _, _]) hs
                refine Z.le rfl trivial ?_
                refine Z.ZO.yieldIn rfl rfl (by rfl) rfl rfl rfl (hY _ (rgs sn pre) (rgOf x) _ _ L' [] hi hpx ⟨by unfold rgOf; simp_all, rfl⟩ hs) ?_
                clear hs
                rintro e wy6_5 (⟨rfl, Ly6_5, hiy6_5, hs⟩ | ⟨rfl, Ly6_5, hiy6_5, hs⟩)
                · refine ⟨_, rfl, ?_⟩
                  refine Z.lb 1 rfl ?_
                  refine Z.lnil ?_
                  refine Z.only [25] rfl ?_
                  refine Z.nthen ?_
                  refine Z.cond rfl (fun hc6 => ?_) (fun hc6 => ?_)
                  · first
                      | (exfalso; simp at hc6 <;> omega)
                      | (
                        (try simp at hc6)
                        refine Z.exit ?_
                        refine Z.xblockn rfl ?_
                        exact Z.rexit _ ⟨rfl, Ly6_5, rfl, hiy6_5⟩ ((SX.St.swap (L2 := [_, _, _, _]) hs).tl)
                        )
                  · first
                      | (exfalso; simp at hc6 <;> omega)
                      | (
                        (try simp at hc6)
                        refine Z.skip ?_
                        refine Z.nblock ?_
                        first
                        | exact Z.rnorm _ ⟨Ly6_5, rfl, by rw [hpr]; exact hiy6_5⟩ ((SX.St.swap (L2 := [_, _, _, _]) hs).tl)
                        | exact Z.rnorm _ ⟨L', rfl, by rw [hpr, if_neg (by assumption)]; exact hi⟩ hs.tl
                        )
                · refine ⟨_, rfl, ?_⟩
                  refine Z.lb 1 rfl ?_
                  refine Z.lnil ?_
                  refine Z.only [25] rfl ?_
                  refine Z.nthen ?_
                  refine Z.cond rfl (fun hc6 => ?_) (fun hc6 => ?_)
                  · first
                      | (exfalso; simp at hc6 <;> omega)
                      | (
                        (try simp at hc6)
                        refine Z.exit ?_
                        refine Z.xblockn rfl ?_
                        exact Z.rexit _ ⟨rfl, Ly6_5, rfl, hiy6_5⟩ ((SX.St.swap (L2 := [_, _, _, _]) hs).tl)
                        )
                  · first
                      | (exfalso; simp at hc6 <;> omega)
                      | (
                        (try simp at hc6)
                        refine Z.skip ?_
                        refine Z.nblock ?_
                        first
                        | exact Z.rnorm _ ⟨Ly6_5, rfl, by rw [hpr]; exact hiy6_5⟩ ((SX.St.swap (L2 := [_, _, _, _]) hs).tl)
                        | exact Z.rnorm _ ⟨L', rfl, by rw [hpr, if_neg (by assumption)]; exact hi⟩ hs.tl
                        )
                )
          )
  · clear hs
    rintro Dd W0 L0 hi hs
    obtain ⟨L', rfl, hi⟩ := hi
    refine Z.nblock ?_
    refine Z.nscope ?_
    -- ret#0
    refine Z.outM1n (vs := []) hs (fun _ _ => trivial) trivial ?_
    clear hs
    intro wr hs
    refine ⟨⟨_, rfl⟩, L', by first | exact .inl hi | exact .inr hi, (SX.St.swap (L1 := [_, _]) hs.tl).sub (List.Sublist.append (List.Sublist.refl _) (List.Sublist.cons_cons _ (List.Sublist.cons_cons _ (List.Sublist.cons _ (List.Sublist.refl _)))))⟩
  · clear hs
    rintro Dd c W0 L0 hi hs
    obtain ⟨rfl, L', rfl, hi⟩ := hi
    refine Z.exit ?_
    refine Z.xblock ?_
    refine Z.nscope ?_
    -- ret#1
    refine Z.outM1n (vs := []) hs (fun _ _ => trivial) trivial ?_
    clear hs
    intro wr hs
    refine ⟨⟨_, rfl⟩, L', by first | exact .inl hi | exact .inr hi, (SX.St.swap (L1 := [_, _]) hs.tl).sub (List.Sublist.append (List.Sublist.refl _) (List.Sublist.cons_cons _ (List.Sublist.cons_cons _ (List.Sublist.cons _ (List.Sublist.refl _)))))⟩
theorem ranges_any (ack sn : Int) (A : Option Addr) (n c : Nat) (l : List NkV) (w : World) (hx : Sl w A (l.flatMap NkV.cells)) (hl : l.length = n) (hn : n ≤ 1000000) :
    Calls Try.prog 25 #[.agg #[.int .i64 ack, .slice A n c], .int .i64 sn] w (SX.Ret fun r w' => ∃ go gs B co, r = .func (.func 51) #[] #[.pointer (some ⟨go, 0, none⟩), .pointer (some ⟨gs, 0, none⟩)] ∧
      SX.St w [] w' [SX.Ent.blk go 22 #[.slice B n co], SX.Ent.blk gs 3 #[.int .i64 sn], SX.Ent.row (.slice B n co) 45 4 n (l.flatMap NkV.cells)]) := by
  have hs := SX.St.start w
  refine Z.enter Try.func25 rfl Try.ntmps25 rfl rfl ?_
  refine Z.seq ?_
  refine Z.region ?_
  refine Z.le rfl trivial ?_
  refine Z.ZO.box rfl rfl (by rfl) rfl rfl hs ?_
  clear hs; intro g2 w2 hs
  refine Z.le rfl trivial ?_
  refine Z.ZO.box rfl rfl (by rfl) rfl rfl hs ?_
  clear hs; intro g3 w3 hs
  refine Z.lb 1 rfl ?_
  refine Z.lnil ?_
  refine Z.only [2, 3] rfl ?_
  refine Z.nthen ?_
  refine Z.seq ?_
  refine Z.region ?_
  refine Z.l rfl rfl (by rfl) (Z.keepS hs) (Z.Yd.fieldA (m := 1) rfl (by kernel_rfl)) ?_
  refine Z.l rfl rfl (by rfl) (Z.keepS hs) (by first | exact Z.Yd.load rfl Try.isAgg22 (fun _ => Z.cellB (by first | ((repeat (first | exact List.mem_cons_self | refine List.mem_cons_of_mem _ ?_ | refine List.mem_append_right _ ?_)); done) | fail) rfl) | exact Z.Yd.load rfl Try.isAgg22 (fun _ => Z.cellO (by assumption) (by simp) (by assumption)) | fail "load 1.1") ?_
  refine Z.le rfl trivial ?_
  refine Z.ZO.call rfl rfl (by rfl) rfl rfl Try.call48 rfl (cloneN A n c l _ (hx.st (hs.sub (List.nil_sublist _))) hl hn) ?_
  rintro v1_2 w1_2 hy
  replace hs := hs.call hy
  clear hy
  try simp only [List.cons_append, List.nil_append, List.append_nil] at hs
  obtain ⟨Bv, cv, rfl, hcv, -, -⟩ := SX.row_slv hs (j := 0) rfl
  refine Z.le rfl trivial ?_
  refine Z.ZO.alloc rfl rfl (by rfl) Try.zeroValue22 rfl hs ?_
  clear hs; intro g5 w5 hs
  refine Z.le rfl trivial ?_
  first | refine Z.ZO.store rfl rfl hs Try.sizeOf22 rfl rfl rfl (by first | exact SX.at0 | exact SX.at1 | exact SX.at2 | exact SX.at3 | exact SX.at4 | exact SX.at5 | exact Z.at6 | exact Z.at7 | exact Z.at8 | exact Z.at9 | exact Z.at10 | exact Z.at11 | exact Z.at12) (by first | (simp; done) | (simp; omega)) ?_ | refine Z.ZO.storeR rfl rfl hs Try.sizeOf22 rfl rfl rfl (by first | exact SX.at0 | exact SX.at1 | exact SX.at2 | exact SX.at3 | exact SX.at4 | exact SX.at5 | exact Z.at6 | exact Z.at7 | exact Z.at8 | exact Z.at9 | exact Z.at10 | exact Z.at11 | exact Z.at12) (by first | omega | (simp [ints_length]; done) | (simp [ints_length]; omega)) ?_
  clear hs; intro ws hs
  simp only [Nat.zero_add, Nat.add_zero, Nat.reduceAdd, Int.reduceToNat, Nat.reduceMul, List.set_cons_zero, List.set_cons_succ, List.setIfInBounds_toArray] at hs
  refine Z.lnil ?_
  refine Z.only [3, 5] rfl ?_
  refine Z.nthen ?_
  refine Z.seq ?_
  refine Z.region ?_
  refine Z.lb 2 rfl ?_
  refine Z.lnil ?_
  refine Z.only [4] rfl ?_
  refine Z.nthen ?_
  refine Z.ret ?_
  -- ret#0
  refine Z.out1 (by exact ⟨rfl, trivial⟩) ?_
  exact ⟨_, rfl, _, _, _, _, rfl, hs.sel [0, 2, 1] (by decide)⟩
end Go.Proofs.Ytcieclifabbkjaa

/- Status reports: the iteration against the document. -/
namespace Go.Proofs.Ytcieclifabbkjaa
open Go.RowKit
set_option linter.unusedSimpArgs false
set_option linter.unusedVariables false
--newlaws

def encP (p : Int × Int) : List Value := [.int .i64 p.1, .int .i64 p.2]
theorem encP_len (p : Int × Int) : (encP p).length = 2 := rfl
theorem rgs_len (sn : Int) (l : List NkV) : (rgs sn l).length ≤ l.length := by
  unfold rgs
  rw [List.length_map]
  exact List.length_filter_le _ _
set_option maxHeartbeats 1000000 in
set_option maxRecDepth 100000 in
theorem rranges_any (ack sn : Int) (A : Option Addr) (n c : Nat) (l : List NkV) (w : World) (hx : Sl w A (l.flatMap NkV.cells)) (hl : l.length = n) (hn : n ≤ 1000000) :
    Calls Try.prog 24 #[.agg #[.int .i64 ack, .slice A n c], .int .i64 sn] w (SX.Ret fun v w' => SX.St w [] w' [SX.Ent.row v 54 2 (rgs sn l).length ((rgs sn l).flatMap encP)]) := by
  have hs := SX.St.start w
  refine Z.enter Try.func24 rfl Try.ntmps24 rfl rfl ?_
  refine Z.seq ?_
  refine Z.region ?_
  refine Z.le rfl trivial ?_
  refine Z.ZO.box rfl rfl (by rfl) rfl rfl hs ?_
  clear hs; intro g2 w2 hs
  refine Z.lb 1 rfl ?_
  refine Z.lnil ?_
  refine Z.only [1, 2] rfl ?_
  refine Z.nthen ?_
  refine Z.seq ?_
  refine Z.region ?_
  refine Z.lb 1 rfl ?_
  refine Z.lnil ?_
  refine Z.only [1, 2, 5] rfl ?_
  refine Z.nthen ?_
  refine Z.seq ?_
  refine Z.seq ?_
  refine Z.region ?_
  refine Z.lb 1 rfl ?_
  refine Z.lnil ?_
  refine Z.only [1, 2, 5, 6] rfl ?_
  replace hs := hs.nil 54 2
  refine Z.nthen ?_
  refine Z.block ?_
  refine Z.loopk (ι := Nat × Value) [1, 2] rfl (fun k => [(5, [], k.2), (6, [], .int .i64 (k.1 : Int))]) (fun k wr => k.1 ≤ n ∧ SX.St w [] wr [SX.Ent.row k.2 54 2 (rgs sn (l.take k.1)).length ((rgs sn (l.take k.1)).flatMap encP), SX.Ent.blk g2 24 #[.int .i64 ack, .slice A n c]]) (fun k => n - k.1) (0, .slice none 0 0) (by refine ⟨?_, ?_, trivial⟩ <;> (first | rfl | (refine Z.lookv rfl ?_; simp; done) | (refine Z.lookv rfl ?_; simp; omega))) ⟨Nat.zero_le _, hs⟩ ?_
  clear hs
  rintro ⟨k, sv⟩ w1 ⟨hk, hs⟩
  refine Z.only [1, 2, 5, 6] rfl ?_
  (try dsimp only at hs)
  dsimp only at hk
  refine Z.seq ?_
  refine Z.seq ?_
  refine Z.region ?_
  refine Z.lb 1 rfl ?_
  refine Z.l rfl rfl (by rfl) (Z.keepS hs) (Z.Yd.fieldA (m := 1) rfl (by kernel_rfl)) ?_
  refine Z.l rfl rfl (by rfl) (Z.keepS hs) (by first | exact Z.Yd.load rfl Try.isAgg22 (fun _ => Z.cellB (by first | ((repeat (first | exact List.mem_cons_self | refine List.mem_cons_of_mem _ ?_ | refine List.mem_append_right _ ?_)); done) | fail) rfl) | exact Z.Yd.load rfl Try.isAgg22 (fun _ => Z.cellO (by assumption) (by simp) (by assumption)) | fail "load 3.2") ?_
  refine Z.l rfl rfl (by rfl) (Z.keepS hs) (Z.Yd.lenS rfl Try.underlying22) ?_
  refine Z.lb 1 rfl ?_
  refine Z.lnil ?_
  refine Z.only [1, 2, 5, 6, 12] rfl ?_
  refine Z.nthen ?_
  refine Z.cond rfl (fun hc3 => ?_) (fun hc3 => ?_)
  · first
      | (exfalso; simp at hc3 <;> omega)
      | (
        (try simp at hc3)
        obtain ⟨b, off, rfl, hx2⟩ := hx.sx.some (by rw [Z.flat_length (s := 4) nk_len]; omega)
        obtain ⟨x, hxk⟩ : ∃ f, l[k]? = some f := ⟨_, List.getElem?_eq_getElem (by omega)⟩
        have hone := nk_one x
        have hrl := rgs_len sn (l.take k)
        have hlt : (l.take k).length ≤ k := by simp; omega
        have hr := rgs_snoc sn (l.take k) x
        rw [take_snoc hxk] at hr
        refine Z.skip ?_
        refine Z.nthen ?_
        refine Z.seq ?_
        refine Z.block ?_
        refine Z.seq ?_
        refine Z.region ?_
        refine Z.l rfl rfl (by rfl) (Z.keepS hs) (Z.Yd.fieldA (m := 1) rfl (by kernel_rfl)) ?_
        refine Z.l rfl rfl (by rfl) (Z.keepS hs) (by first | exact Z.Yd.load rfl Try.isAgg22 (fun _ => Z.cellB (by first | ((repeat (first | exact List.mem_cons_self | refine List.mem_cons_of_mem _ ?_ | refine List.mem_append_right _ ?_)); done) | fail) rfl) | exact Z.Yd.load rfl Try.isAgg22 (fun _ => Z.cellO (by assumption) (by simp) (by assumption)) | fail "load 5.1") ?_
        refine Z.lb 1 rfl ?_
        refine Z.l rfl rfl (by rfl) (Z.keepS hs) (Z.Yd.elem rfl rfl Try.underlying22 Try.sizeOf45 (fun hG => ⟨(by first | omega | (have hG' := Z.gh rfl hG; simp at hG'; omega)), (by first | omega | (have hG' := Z.gh rfl hG; simp at hG'; omega))⟩)) ?_
        refine Z.l rfl rfl (by rfl) (Z.keepS hs) (Z.Yd.loadA _ rfl Try.isAgg45 (fun _ => Z.cellsX x.cells hx2 nk_len hxk rfl) (by exact Try.sizeOf45)) ?_
        refine Z.le rfl trivial ?_
        refine Z.ZO.alloc rfl rfl (by rfl) Try.zeroValue45 rfl hs ?_
        clear hs; intro g7 w7 hs
        refine Z.le rfl trivial ?_
        first | refine Z.ZO.storeA rfl rfl hs rfl rfl (by kernel_rfl) (by first | (simp [Value.oneCell']; done) | (refine Z.all_one ?_; assumption)) (by first | exact SX.at0 | exact SX.at1 | exact SX.at2 | exact SX.at3 | exact SX.at4 | exact SX.at5 | exact Z.at6 | exact Z.at7 | exact Z.at8 | exact Z.at9 | exact Z.at10 | exact Z.at11 | exact Z.at12) (by rfl) ?_ | refine Z.ZO.storeP rfl rfl hs rfl rfl (by kernel_rfl) (by first | (simp [Value.oneCell']; done) | (refine Z.all_one ?_; assumption)) (by first | exact SX.at0 | exact SX.at1 | exact SX.at2 | exact SX.at3 | exact SX.at4 | exact SX.at5 | exact Z.at6 | exact Z.at7 | exact Z.at8 | exact Z.at9 | exact Z.at10 | exact Z.at11 | exact Z.at12) (by first | decide | (simp; done) | (simp; omega)) ?_ | refine Z.ZO.storePR rfl rfl hs rfl rfl (by kernel_rfl) (by first | (simp [Value.oneCell']; done) | (refine Z.all_one ?_; assumption)) (by first | exact SX.at0 | exact SX.at1 | exact SX.at2 | exact SX.at3 | exact SX.at4 | exact SX.at5 | exact Z.at6 | exact Z.at7 | exact Z.at8 | exact Z.at9 | exact Z.at10 | exact Z.at11 | exact Z.at12) (by first | decide | (simp; done) | (simp; omega)) ?_
        clear hs; intro ws hs
        simp only [Nat.zero_add, Nat.add_zero, Nat.reduceAdd, Int.reduceToNat, Nat.reduceMul, List.set_cons_zero, List.set_cons_succ, List.setIfInBounds_toArray] at hs
        try simp only [Z.putL, Nat.zero_add] at hs
        refine Z.lnil ?_
        refine Z.only [1, 2, 5, 6, 7] rfl ?_
        refine Z.nthen ?_
        refine Z.seq ?_
        refine Z.seq ?_
        refine Z.region ?_
        refine Z.l rfl rfl (by rfl) (Z.keepS hs) (Z.Yd.fieldA (m := 0) rfl (by kernel_rfl)) ?_
        refine Z.l rfl rfl (by rfl) (Z.keepS hs) (Z.Yd.load rfl Try.isAgg3 (fun _ => Z.cellB (cs := x.cells.toArray) (by first | ((repeat (first | exact List.mem_cons_self | refine List.mem_cons_of_mem _ ?_ | refine List.mem_append_right _ ?_)); done) | fail) rfl)) ?_
        refine Z.lb 2 rfl ?_
        refine Z.lnil ?_
        refine Z.only [1, 2, 5, 6, 7, 23] rfl ?_
        refine Z.nthen ?_
        refine Z.cond rfl (fun hc6 => ?_) (fun hc6 => ?_)
        · first
            | (exfalso; simp at hc6 <;> omega)
            | (
              (try simp at hc6)
              refine Z.exit ?_
              refine Z.xthen ?_
              refine Z.xblock ?_
              refine Z.nthen ?_
              refine Z.region ?_
              refine Z.lb 1 rfl ?_
              refine Z.l rfl rfl (by rfl) (Z.keepS hs) (Z.Yd.add rfl rfl (fun hG => Z.wi64 (by first | omega | (have hG' := Z.gh rfl hG; simp at hG'; omega)))) ?_
              refine Z.lb 1 rfl ?_
              refine Z.lnil ?_
              refine Z.only [1, 2, 5, 6] rfl ?_
              refine Z.nthen ?_
              first
              | (rw [if_neg (by assumption)] at hr
                 exact Z.again (k + 1, sv) (by refine ⟨?_, ?_, ?_, ?_, trivial⟩ <;> (first | rfl | (refine Z.lookv rfl ?_; simp; done) | (refine Z.lookv rfl ?_; simp; omega))) ⟨by simp only; omega, by rw [hr]; exact hs.tl⟩ (by simp only; omega))
              | (rw [if_pos (by assumption)] at hr
                 refine Z.again (k + 1, _) (by refine ⟨?_, ?_, ?_, ?_, trivial⟩ <;> (first | rfl | (refine Z.lookv rfl ?_; simp; done) | (refine Z.lookv rfl ?_; simp; omega))) ⟨by simp only; omega, ?_⟩ (by simp only; omega)
                 rw [hr]
                 refine rowEq hs.tl (by simp) ?_
                 unfold rgOf encP
                 simp_all)
              )
        · first
            | (exfalso; simp at hc6 <;> omega)
            | (
              (try simp at hc6)
              refine Z.skip ?_
              refine Z.nthen ?_
              refine Z.seq ?_
              refine Z.region ?_
              refine Z.l rfl rfl (by rfl) (Z.keepS hs) (Z.Yd.fieldA (m := 1) rfl (by kernel_rfl)) ?_
              refine Z.l rfl rfl (by rfl) (Z.keepS hs) (Z.Yd.load rfl Try.isAgg4 (fun _ => Z.cellB (cs := x.cells.toArray) (by first | ((repeat (first | exact List.mem_cons_self | refine List.mem_cons_of_mem _ ?_ | refine List.mem_append_right _ ?_)); done) | fail) rfl)) ?_
              refine Z.lnil ?_
              refine Z.only [1, 2, 5, 6, 7, 25] rfl ?_
              refine Z.nthen ?_
              refine Z.cond rfl (fun hc7 => ?_) (fun hc7 => ?_)
              · first
                  | (exfalso; simp at hc7 <;> omega)
                  | (
                    (try simp at hc7)
                    refine Z.region ?_
                    refine Z.lb 1 rfl ?_
                    refine Z.l rfl rfl (by rfl) (Z.keepS hs) (Z.Yd.fieldA (m := 2) rfl (by kernel_rfl)) ?_
                    refine Z.l rfl rfl (by rfl) (Z.keepS hs) (Z.Yd.load rfl Try.isAgg3 (fun _ => Z.cellB (cs := x.cells.toArray) (by first | ((repeat (first | exact List.mem_cons_self | refine List.mem_cons_of_mem _ ?_ | refine List.mem_append_right _ ?_)); done) | fail) rfl)) ?_
                    refine Z.l rfl rfl (by rfl) (Z.keepS hs) (Z.Yd.fieldA (m := 3) rfl (by kernel_rfl)) ?_
                    refine Z.l rfl rfl (by rfl) (Z.keepS hs) (Z.Yd.load rfl Try.isAgg3 (fun _ => Z.cellB (cs := x.cells.toArray) (by first | ((repeat (first | exact List.mem_cons_self | refine List.mem_cons_of_mem _ ?_ | refine List.mem_append_right _ ?_)); done) | fail) rfl)) ?_
                    refine Z.l rfl rfl (by rfl) (Z.keepS hs) (Z.Yd.buildL [(0, 1), (1, 1)] [.int .i64 0, .int .i64 0] rfl rfl (by intro w; kernel_rfl)) ?_
                    refine Z.le rfl trivial ?_
                    refine Z.ZO.litL (T' := 54) [(0, 2)] [.int .i64 0, .int .i64 0] rfl rfl (by rfl) rfl rfl (by intro W; kernel_rfl) hs ?_
                    clear hs; intro g32 w32 hs
                    refine Z.le rfl trivial ?_
                    refine Z.ZO.append (i0 := Try.t54) (size := 2) (bytes := 16) rfl rfl (by rfl) hs Try.underlying49 (by kernel_rfl) rfl rfl rfl rfl (by decide) rfl rfl (by first | exact SX.at0 | exact SX.at1 | exact SX.at2 | exact SX.at3 | exact SX.at4 | exact SX.at5 | exact Z.at6 | exact Z.at7 | exact Z.at8 | exact Z.at9 | exact Z.at10 | exact Z.at11 | exact Z.at12) (by first | exact SX.at0 | exact SX.at1 | exact SX.at2 | exact SX.at3 | exact SX.at4 | exact SX.at5 | exact Z.at6 | exact Z.at7 | exact Z.at8 | exact Z.at9 | exact Z.at10 | exact Z.at11 | exact Z.at12) (by first | rfl | simp) (by simp [Value.oneCell']) (by decide) (by unfold maxLen; omega) (by omega) ?_
                    clear hs; intro g33 cap33 w33 hs
                    simp only [List.set_cons_zero, List.set_cons_succ, List.eraseIdx_cons_zero, List.eraseIdx_cons_succ] at hs
                    refine Z.lb 1 rfl ?_
                    refine Z.lnil ?_
                    refine Z.only [1, 2, 5, 6] rfl ?_
                    refine Z.nblock ?_
                    refine Z.nthen ?_
                    refine Z.region ?_
                    refine Z.lb 1 rfl ?_
                    refine Z.l rfl rfl (by rfl) (Z.keepS hs) (Z.Yd.add rfl rfl (fun hG => Z.wi64 (by first | omega | (have hG' := Z.gh rfl hG; simp at hG'; omega)))) ?_
                    refine Z.lb 1 rfl ?_
                    refine Z.lnil ?_
                    refine Z.only [1, 2, 5, 6] rfl ?_
                    refine Z.nthen ?_
                    first
                    | (rw [if_neg (by assumption)] at hr
                       exact Z.again (k + 1, sv) (by refine ⟨?_, ?_, ?_, ?_, trivial⟩ <;> (first | rfl | (refine Z.lookv rfl ?_; simp; done) | (refine Z.lookv rfl ?_; simp; omega))) ⟨by simp only; omega, by rw [hr]; exact hs.tl⟩ (by simp only; omega))
                    | (rw [if_pos (by assumption)] at hr
                       refine Z.again (k + 1, _) (by refine ⟨?_, ?_, ?_, ?_, trivial⟩ <;> (first | rfl | (refine Z.lookv rfl ?_; simp; done) | (refine Z.lookv rfl ?_; simp; omega))) ⟨by simp only; omega, ?_⟩ (by simp only; omega)
                       rw [hr]
                       refine rowEq hs.tl (by simp) ?_
                       unfold rgOf encP
                       simp_all)
                    )
              · first
                  | (exfalso; simp at hc7 <;> omega)
                  | (
                    (try simp at hc7)
                    refine Z.region ?_
                    refine Z.lb 1 rfl ?_
                    refine Z.l rfl rfl (by rfl) (Z.keepS hs) (Z.Yd.buildL [(0, 1), (1, 1)] [.int .i64 0, .int .i64 0] rfl rfl (by intro w; kernel_rfl)) ?_
                    refine Z.le rfl trivial ?_
                    refine Z.ZO.litL (T' := 54) [(0, 2)] [.int .i64 0, .int .i64 0] rfl rfl (by rfl) rfl rfl (by intro W; kernel_rfl) hs ?_
                    clear hs; intro g36 w36 hs
                    refine Z.le rfl trivial ?_
                    refine Z.ZO.append (i0 := Try.t54) (size := 2) (bytes := 16) rfl rfl (by rfl) hs Try.underlying49 (by kernel_rfl) rfl rfl rfl rfl (by decide) rfl rfl (by first | exact SX.at0 | exact SX.at1 | exact SX.at2 | exact SX.at3 | exact SX.at4 | exact SX.at5 | exact Z.at6 | exact Z.at7 | exact Z.at8 | exact Z.at9 | exact Z.at10 | exact Z.at11 | exact Z.at12) (by first | exact SX.at0 | exact SX.at1 | exact SX.at2 | exact SX.at3 | exact SX.at4 | exact SX.at5 | exact Z.at6 | exact Z.at7 | exact Z.at8 | exact Z.at9 | exact Z.at10 | exact Z.at11 | exact Z.at12) (by first | rfl | simp) (by simp [Value.oneCell']) (by decide) (by unfold maxLen; omega) (by omega) ?_
                    clear hs; intro g37 cap37 w37 hs
                    simp only [List.set_cons_zero, List.set_cons_succ, List.eraseIdx_cons_zero, List.eraseIdx_cons_succ] at hs
                    refine Z.lb 1 rfl ?_
                    refine Z.lnil ?_
                    refine Z.only [1, 2, 5, 6] rfl ?_
                    refine Z.nblock ?_
                    refine Z.nthen ?_
                    refine Z.region ?_
                    refine Z.lb 1 rfl ?_
                    refine Z.l rfl rfl (by rfl) (Z.keepS hs) (Z.Yd.add rfl rfl (fun hG => Z.wi64 (by first | omega | (have hG' := Z.gh rfl hG; simp at hG'; omega)))) ?_
                    refine Z.lb 1 rfl ?_
                    refine Z.lnil ?_
                    refine Z.only [1, 2, 5, 6] rfl ?_
                    refine Z.nthen ?_
                    first
                    | (rw [if_neg (by assumption)] at hr
                       exact Z.again (k + 1, sv) (by refine ⟨?_, ?_, ?_, ?_, trivial⟩ <;> (first | rfl | (refine Z.lookv rfl ?_; simp; done) | (refine Z.lookv rfl ?_; simp; omega))) ⟨by simp only; omega, by rw [hr]; exact hs.tl⟩ (by simp only; omega))
                    | (rw [if_pos (by assumption)] at hr
                       refine Z.again (k + 1, _) (by refine ⟨?_, ?_, ?_, ?_, trivial⟩ <;> (first | rfl | (refine Z.lookv rfl ?_; simp; done) | (refine Z.lookv rfl ?_; simp; omega))) ⟨by simp only; omega, ?_⟩ (by simp only; omega)
                       rw [hr]
                       refine rowEq hs.tl (by simp) ?_
                       unfold rgOf encP
                       simp_all)
                    )
              )
        )
  · first
      | (exfalso; simp at hc3 <;> omega)
      | (
        (try simp at hc3)
        refine Z.exit ?_
        refine Z.xthen ?_
        refine Z.xthen ?_
        refine Z.xblock ?_
        refine Z.nthen ?_
        refine Z.seq ?_
        refine Z.region ?_
        obtain rfl : k = n := by omega
        rw [List.take_of_length_le (by omega)] at hs
        refine Z.l rfl rfl (by rfl) (Z.keepS hs) (Z.Yd.pure rfl) ?_
        refine Z.lb 1 rfl ?_
        refine Z.lnil ?_
        refine Z.only [4] rfl ?_
        refine Z.nthen ?_
        refine Z.ret ?_
        -- ret#0
        refine Z.out1 (by exact ⟨rfl, trivial⟩) ?_
        exact ⟨_, rfl, hs.sub (List.Sublist.cons_cons _ (List.nil_sublist _))⟩
        )
end Go.Proofs.Ytcieclifabbkjaa

/- Status reports: the iteration, twice. -/
namespace Go.Proofs.Ytcieclifabbkjaa
open Go.RowKit
set_option linter.unusedSimpArgs false
set_option linter.unusedVariables false
--newlaws

set_option maxHeartbeats 2000000 in
set_option maxRecDepth 100000 in
theorem statusRanges_walk (a1 a2 sn many : Int) (A B : Option Addr) (n c m d : Nat) (l k : List NkV) (w : World) (hx : Sl w A (l.flatMap NkV.cells)) (hl : l.length = n) (hy0 : Sl w B (k.flatMap NkV.cells)) (hk : k.length = m) (hn : n ≤ maxLen) (hm : m ≤ maxLen) :
    Calls Try.prog 8 #[.agg #[.int .i64 a1, .slice A n c], .agg #[.int .i64 a2, .slice B m d], .int .i64 sn, .int .i64 many] w (SX.Ret fun v w' => v = .bool true ∧ SX.St w [] w' []) := by
  have hs := SX.St.start w
  by_cases h : n ≤ 100 ∧ m ≤ 100
  · obtain ⟨h1, h2⟩ := h
    have hf : (l.flatMap NkV.cells).length = n * 4 := by rw [nk_flat, hl]
    have hone : ∀ u ∈ l.flatMap NkV.cells, u.oneCell' = true := fun u hu => by
      obtain ⟨x, -, hx⟩ := List.mem_flatMap.1 hu
      exact nk_one x u hx
    have hsym : decide (a2 = a1 ∧ k = l) = decide (a1 = a2 ∧ l = k) := by rw [decide_eq_decide]; exact ⟨fun h => ⟨h.1.symm, h.2.symm⟩, fun h => ⟨h.1.symm, h.2.symm⟩⟩
    have hKn := rgs_len sn l
    refine Z.enterM Try.func8 rfl Try.ntmps8 rfl rfl ?_
    refine Z.seq ?_
    refine Z.region ?_
    refine Z.le rfl trivial ?_
    refine Z.ZO.box rfl rfl (by rfl) rfl rfl hs ?_
    clear hs; intro g4 w4 hs
    refine Z.le rfl trivial ?_
    refine Z.ZO.box rfl rfl (by rfl) rfl rfl hs ?_
    clear hs; intro g5 w5 hs
    refine Z.le rfl trivial ?_
    refine Z.ZO.box rfl rfl (by rfl) rfl rfl hs ?_
    clear hs; intro g7 w7 hs
    refine Z.le rfl trivial ?_
    refine Z.ZO.alloc rfl rfl (by rfl) Try.zeroValue4 rfl hs ?_
    clear hs; intro g8 w8 hs
    refine Z.lnil ?_
    refine Z.only [2, 4, 5, 7, 8] rfl ?_
    refine Z.nthen ?_
    refine Z.seq ?_
    refine Z.seq ?_
    refine Z.region ?_
    refine Z.l rfl rfl (by rfl) (Z.keepS hs) (Z.Yd.fieldA (m := 1) rfl (by kernel_rfl)) ?_
    refine Z.l rfl rfl (by rfl) (Z.keepS hs) (by first | exact Z.Yd.load rfl Try.isAgg22 (fun _ => Z.cellB (by first | ((repeat (first | exact List.mem_cons_self | refine List.mem_cons_of_mem _ ?_ | refine List.mem_append_right _ ?_)); done) | fail) rfl) | exact Z.Yd.load rfl Try.isAgg22 (fun _ => Z.cellO (by assumption) (by simp) (by assumption)) | fail "load 1.1") ?_
    refine Z.l rfl rfl (by rfl) (Z.keepS hs) (Z.Yd.lenS rfl Try.underlying22) ?_
    refine Z.lb 2 rfl ?_
    refine Z.yes (s := 22) (b := false) rfl ((by simp; omega)) rfl ?_
    refine Z.l rfl rfl (by rfl) (Z.keepS hs) (Z.Yd.fieldA (m := 1) rfl (by kernel_rfl)) ?_
    refine Z.l rfl rfl (by rfl) (Z.keepS hs) (by first | exact Z.Yd.load rfl Try.isAgg22 (fun _ => Z.cellB (by first | ((repeat (first | exact List.mem_cons_self | refine List.mem_cons_of_mem _ ?_ | refine List.mem_append_right _ ?_)); done) | fail) rfl) | exact Z.Yd.load rfl Try.isAgg22 (fun _ => Z.cellO (by assumption) (by simp) (by assumption)) | fail "load 1.6") ?_
    refine Z.l rfl rfl (by rfl) (Z.keepS hs) (Z.Yd.lenS rfl Try.underlying22) ?_
    refine Z.lb 1 rfl ?_
    refine Z.yes (s := 22) (b := false) rfl rfl rfl ?_
    refine Z.l rfl rfl (by rfl) (Z.keepS hs) (Z.Yd.pickF rfl rfl) ?_
    refine Z.lnil ?_
    refine Z.only [2, 4, 5, 7, 8, 27] rfl ?_
    refine Z.nthen ?_
    refine Z.cond rfl (fun h => absurd h (by simp; omega)) (fun hc1 => ?_)
    refine Z.skip ?_
    refine Z.nthen ?_
    refine Z.seq ?_
    refine Z.region ?_
    refine Z.l rfl rfl (by rfl) (Z.keepS hs) (by first | exact Z.Yd.loadA _ rfl Try.isAgg24 (fun _ => Z.cellsB (by first | ((repeat (first | exact List.mem_cons_self | refine List.mem_cons_of_mem _ ?_ | refine List.mem_append_right _ ?_)); done) | fail)) (by exact Try.sizeOf24) | fail "load 3.0") ?_
    refine Z.l rfl rfl (by rfl) (Z.keepS hs) (by first | exact Z.Yd.loadA _ rfl Try.isAgg24 (fun _ => Z.cellsB (by first | ((repeat (first | exact List.mem_cons_self | refine List.mem_cons_of_mem _ ?_ | refine List.mem_append_right _ ?_)); done) | fail)) (by exact Try.sizeOf24) | fail "load 3.1") ?_
    refine Z.le rfl trivial ?_
    refine Z.ZO.call rfl rfl (by rfl) rfl rfl Try.call19 rfl (rsame34 a1 a2 A B _ _ _ _ l k _ (hx.st (hs.sub (List.nil_sublist _))) (hy0.st (hs.sub (List.nil_sublist _))) hl hk (by omega)) ?_
    rintro v3_2 w3_2 ⟨rfl, hy⟩
    replace hs := hs.call hy
    clear hy
    try simp only [List.cons_append, List.nil_append, List.append_nil] at hs
    refine Z.lb 1 rfl ?_
    refine Z.lnil ?_
    refine Z.only [2, 4, 5, 7, 8, 9] rfl ?_
    refine Z.nthen ?_
    refine Z.seq ?_
    refine Z.seq ?_
    refine Z.region ?_
    refine Z.l rfl rfl (by rfl) (Z.keepS hs) (by first | exact Z.Yd.loadA _ rfl Try.isAgg24 (fun _ => Z.cellsB (by first | ((repeat (first | exact List.mem_cons_self | refine List.mem_cons_of_mem _ ?_ | refine List.mem_append_right _ ?_)); done) | fail)) (by exact Try.sizeOf24) | fail "load 4.0") ?_
    refine Z.l rfl rfl (by rfl) (Z.keepS hs) (by first | exact Z.Yd.loadA _ rfl Try.isAgg24 (fun _ => Z.cellsB (by first | ((repeat (first | exact List.mem_cons_self | refine List.mem_cons_of_mem _ ?_ | refine List.mem_append_right _ ?_)); done) | fail)) (by exact Try.sizeOf24) | fail "load 4.1") ?_
    refine Z.le rfl trivial ?_
    refine Z.ZO.call rfl rfl (by rfl) rfl rfl Try.call22 rfl (ssame_any a1 a2 A B _ _ _ _ l k _ (hx.st (hs.sub (List.nil_sublist _))) (hy0.st (hs.sub (List.nil_sublist _))) hl hk (by omega)) ?_
    rintro v4_2 w4_2 ⟨rfl, hy⟩
    replace hs := hs.call hy
    clear hy
    try simp only [List.cons_append, List.nil_append, List.append_nil] at hs
    refine Z.lb 1 rfl ?_
    refine Z.l rfl rfl (by rfl) (Z.keepS hs) (Z.Yd.bin rfl rfl (by intro _ w; go_simp; try rfl)) ?_
    refine Z.lb 1 rfl ?_
    refine Z.yes (s := 37) (b := false) rfl ((by simp)) rfl ?_
    refine Z.l rfl rfl (by rfl) (Z.keepS hs) (by first | exact Z.Yd.loadA _ rfl Try.isAgg24 (fun _ => Z.cellsB (by first | ((repeat (first | exact List.mem_cons_self | refine List.mem_cons_of_mem _ ?_ | refine List.mem_append_right _ ?_)); done) | fail)) (by exact Try.sizeOf24) | fail "load 4.6") ?_
    refine Z.l rfl rfl (by rfl) (Z.keepS hs) (by first | exact Z.Yd.loadA _ rfl Try.isAgg24 (fun _ => Z.cellsB (by first | ((repeat (first | exact List.mem_cons_self | refine List.mem_cons_of_mem _ ?_ | refine List.mem_append_right _ ?_)); done) | fail)) (by exact Try.sizeOf24) | fail "load 4.7") ?_
    refine Z.yes (s := 37) (b := false) rfl rfl rfl ?_
    refine Z.le rfl (by exact ⟨rfl, trivial⟩) ?_
    refine Z.ZO.call rfl rfl (by rfl) rfl rfl Try.call22 rfl (ssame_any a2 a1 B A _ _ _ _ k l _ (hy0.st (hs.sub (List.nil_sublist _))) (hx.st (hs.sub (List.nil_sublist _))) hk hl (by omega)) ?_
    rintro v4_8 w4_8 ⟨rfl, hy⟩
    replace hs := hs.call hy
    clear hy
    try simp only [List.cons_append, List.nil_append, List.append_nil] at hs
    rw [hsym]
    refine Z.lb 1 rfl ?_
    refine Z.l rfl rfl (by rfl) (Z.keepS hs) (Z.Yd.bin rfl rfl (by intro _ w; go_simp; try rfl)) ?_
    refine Z.yes (s := 37) (b := false) rfl rfl rfl ?_
    refine Z.l rfl rfl (by rfl) (Z.keepS hs) (Z.Yd.pickF rfl rfl) ?_
    refine Z.lb 1 rfl ?_
    refine Z.yes (s := 44) (b := false) rfl ((by simp)) rfl ?_
    refine Z.l rfl rfl (by rfl) (Z.keepS hs) (by first | exact Z.Yd.loadA _ rfl Try.isAgg24 (fun _ => Z.cellsB (by first | ((repeat (first | exact List.mem_cons_self | refine List.mem_cons_of_mem _ ?_ | refine List.mem_append_right _ ?_)); done) | fail)) (by exact Try.sizeOf24) | fail "load 4.13") ?_
    refine Z.l rfl rfl (by rfl) (Z.keepS hs) (by first | exact Z.Yd.loadA _ rfl Try.isAgg24 (fun _ => Z.cellsB (by first | ((repeat (first | exact List.mem_cons_self | refine List.mem_cons_of_mem _ ?_ | refine List.mem_append_right _ ?_)); done) | fail)) (by exact Try.sizeOf24) | fail "load 4.14") ?_
    refine Z.yes (s := 44) (b := false) rfl rfl rfl ?_
    refine Z.le rfl (by exact ⟨rfl, trivial⟩) ?_
    refine Z.ZO.call rfl rfl (by rfl) rfl rfl Try.call22 rfl (ssame_any a1 a1 A A _ _ _ _ l l _ (hx.st (hs.sub (List.nil_sublist _))) (hx.st (hs.sub (List.nil_sublist _))) hl hl (by omega)) ?_
    rintro v4_15 w4_15 ⟨rfl, hy⟩
    replace hs := hs.call hy
    clear hy
    try simp only [List.cons_append, List.nil_append, List.append_nil] at hs
    refine Z.lb 1 rfl ?_
    refine Z.yes (s := 44) (b := false) rfl rfl rfl ?_
    refine Z.l rfl rfl (by rfl) (Z.keepS hs) (Z.Yd.pickF rfl rfl) ?_
    refine Z.lnil ?_
    refine Z.only [2, 4, 7, 8, 49] rfl ?_
    refine Z.nthen ?_
    refine Z.cond rfl (fun h => absurd h (by simp)) (fun hc4 => ?_)
    refine Z.skip ?_
    refine Z.nthen ?_
    refine Z.seq ?_
    refine Z.cutt (ι := Nat × Value) [2, 4, 7, 8] rfl (fun x => [(10, [], .pointer (some ⟨x.1, 0, none⟩))]) (fun x wr => SX.St w [] wr [SX.Ent.row x.2 45 4 n (l.flatMap NkV.cells), SX.Ent.blk x.1 24 #[.int .i64 a1, x.2], SX.Ent.blk g8 4 #[.bool false], SX.Ent.blk g7 3 #[.int .i64 many], SX.Ent.blk g5 24 #[.int .i64 a2, .slice B m d], SX.Ent.blk g4 24 #[.int .i64 a1, .slice A n c]]) ?_ ?_
    · skip
      refine Z.drawK (fun _ => true) mixed hs ?_
      clear hs; intro wd6 hs
      refine Z.t 0 rfl rfl rfl (by rfl) (by kernel_rfl) ⟨_, hs, by first | (simp; done) | exact fun e he => List.mem_append_right _ he⟩ (Z.Yd.fieldA (m := 0) rfl (by kernel_rfl)) ?_
      refine Z.t 1 rfl rfl rfl (by rfl) (by kernel_rfl) ⟨_, hs, by first | (simp; done) | exact fun e he => List.mem_append_right _ he⟩ (by first | exact Z.Yd.load rfl Try.isAgg3 (fun _ => Z.cellB (by first | ((repeat (first | exact List.mem_cons_self | refine List.mem_cons_of_mem _ ?_ | refine List.mem_append_right _ ?_)); done) | fail) rfl) | exact Z.Yd.load rfl Try.isAgg3 (fun _ => Z.cellO (by assumption) (by simp) (by assumption)) | fail "load 6.1") ?_
      refine Z.t 3 rfl rfl rfl (by rfl) (by kernel_rfl) ⟨_, hs, by first | (simp; done) | exact fun e he => List.mem_append_right _ he⟩ (Z.Yd.fieldA (m := 1) rfl (by kernel_rfl)) ?_
      refine Z.t 4 rfl rfl rfl (by rfl) (by kernel_rfl) ⟨_, hs, by first | (simp; done) | exact fun e he => List.mem_append_right _ he⟩ (by first | exact Z.Yd.load rfl Try.isAgg22 (fun _ => Z.cellB (by first | ((repeat (first | exact List.mem_cons_self | refine List.mem_cons_of_mem _ ?_ | refine List.mem_append_right _ ?_)); done) | fail) rfl) | exact Z.Yd.load rfl Try.isAgg22 (fun _ => Z.cellO (by assumption) (by simp) (by assumption)) | fail "load 6.4") ?_
      refine Z.fork2 2 7 rfl rfl rfl (by kernel_rfl) rfl rfl trivial trivial ?_ ?_
      · skip
        refine Z.ZO.empty rfl rfl (by rfl) Try.underlying22 Try.sizeOf45 hs ?_
        clear hs; intro g52 w52 hs
        refine Z.tk (Dn := fun _ => true) (i := 2) (fun _ => ⟨_, hs, by first | (simp; done) | exact fun e he => List.mem_append_right _ he⟩) ?_
        refine Z.fork2 5 7 rfl rfl rfl (by kernel_rfl) rfl rfl trivial trivial ?_ ?_
        · skip
          refine Z.ZO.appendG (i0 := Try.t45) (size := 4) (bytes := 32) rfl rfl (by rfl) hs Try.underlying22 (by kernel_rfl) rfl rfl rfl rfl (by decide) rfl rfl (by first | exact SX.at0 | exact SX.at1 | exact SX.at2 | exact SX.at3 | exact SX.at4 | exact SX.at5 | exact Z.at6 | exact Z.at7 | exact Z.at8 | exact Z.at9 | exact Z.at10 | exact Z.at11 | exact Z.at12) (hx.st (hs.sub (List.nil_sublist _))) (by first | rfl | assumption | (simp [ints_length]; done) | (simp [ints_length]; omega)) (by first | exact Z.ints_one | assumption | simp [Value.oneCell']) (by unfold maxLen; omega) (by omega) ?_
          clear hs; intro v55 w55 hs
          simp only [List.set_cons_zero, List.set_cons_succ] at hs
          obtain ⟨B26, c26, rfl⟩ : ∃ B26 c26, v55 = .slice B26 (0 + n) c26 := by
            first
            | (obtain ⟨B, c, h, -, -, -⟩ := SX.row_slv hs (j := 0) rfl; exact ⟨B, c, h⟩)
            | (obtain ⟨B, c, h, -, -, -⟩ := SX.row_slv hs (j := 1) rfl; exact ⟨B, c, h⟩)
            | (obtain ⟨B, c, h, -, -, -⟩ := SX.row_slv hs (j := 2) rfl; exact ⟨B, c, h⟩)
          rw [Nat.zero_add, List.nil_append] at hs
          refine Z.tk (Dn := fun _ => true) (i := 5) (fun _ => ⟨_, hs, by first | (simp; done) | exact fun e he => List.mem_append_right _ he⟩) ?_
          refine Z.t 6 rfl rfl rfl (by rfl) (by kernel_rfl) ⟨_, hs, by first | (simp; done) | exact fun e he => List.mem_append_right _ he⟩ (Z.Yd.buildL [(0, 1), (1, 1)] [.int .i64 0, .slice none 0 0] rfl rfl (by intro w; kernel_rfl)) ?_
          refine Z.tn 7 rfl rfl (by kernel_rfl) rfl trivial ?_
          refine Z.ZO.alloc rfl rfl (by rfl) Try.zeroValue24 rfl hs ?_
          clear hs; intro g10 w10 hs
          refine Z.tk (Dn := fun _ => true) (i := 7) (fun _ => ⟨_, hs, by first | (simp; done) | exact fun e he => List.mem_append_right _ he⟩) ?_
          refine Z.tn 8 rfl rfl (by kernel_rfl) rfl trivial ?_
          first | refine Z.ZO.storeA rfl rfl hs rfl rfl (by kernel_rfl) (by first | (simp [Value.oneCell']; done) | (refine Z.all_one ?_; assumption)) (by first | exact SX.at0 | exact SX.at1 | exact SX.at2 | exact SX.at3 | exact SX.at4 | exact SX.at5 | exact Z.at6 | exact Z.at7 | exact Z.at8 | exact Z.at9 | exact Z.at10 | exact Z.at11 | exact Z.at12) (by rfl) ?_ | refine Z.ZO.storeP rfl rfl hs rfl rfl (by kernel_rfl) (by first | (simp [Value.oneCell']; done) | (refine Z.all_one ?_; assumption)) (by first | exact SX.at0 | exact SX.at1 | exact SX.at2 | exact SX.at3 | exact SX.at4 | exact SX.at5 | exact Z.at6 | exact Z.at7 | exact Z.at8 | exact Z.at9 | exact Z.at10 | exact Z.at11 | exact Z.at12) (by first | decide | (simp; done) | (simp; omega)) ?_ | refine Z.ZO.storePR rfl rfl hs rfl rfl (by kernel_rfl) (by first | (simp [Value.oneCell']; done) | (refine Z.all_one ?_; assumption)) (by first | exact SX.at0 | exact SX.at1 | exact SX.at2 | exact SX.at3 | exact SX.at4 | exact SX.at5 | exact Z.at6 | exact Z.at7 | exact Z.at8 | exact Z.at9 | exact Z.at10 | exact Z.at11 | exact Z.at12) (by first | decide | (simp; done) | (simp; omega)) ?_
          clear hs; intro ws hs
          simp only [Nat.zero_add, Nat.add_zero, Nat.reduceAdd, Int.reduceToNat, Nat.reduceMul, List.set_cons_zero, List.set_cons_succ, List.setIfInBounds_toArray] at hs
          try simp only [Z.putL, Nat.zero_add] at hs
          refine Z.tk (Dn := fun _ => true) (i := 8) (fun _ => ⟨_, hs, by first | (simp; done) | exact fun e he => List.mem_append_right _ he⟩) ?_
          refine Z.td (by rfl) (by kernel_rfl) ?_
          refine Z.only [2, 4, 7, 8, 10] rfl ?_
          refine Z.nthen ?_
          exact Z.meet (g10, _) (by refine ⟨?_, ?_, ?_, ?_, ?_, trivial⟩ <;> (first | rfl | (refine Z.lookv rfl ?_; simp; done) | (refine Z.lookv rfl ?_; simp; omega))) (by first | exact hs | exact hs.sel [1, 0, 2, 3, 4, 5] (by decide))
        · skip
          refine Z.ZO.alloc rfl rfl (by rfl) Try.zeroValue24 rfl hs ?_
          clear hs; intro g10 w10 hs
          refine Z.tk (Dn := fun _ => true) (i := 7) (fun _ => ⟨_, hs, by first | (simp; done) | exact fun e he => List.mem_append_right _ he⟩) ?_
          refine Z.tn 5 rfl rfl (by kernel_rfl) rfl trivial ?_
          refine Z.ZO.appendG (i0 := Try.t45) (size := 4) (bytes := 32) rfl rfl (by rfl) hs Try.underlying22 (by kernel_rfl) rfl rfl rfl rfl (by decide) rfl rfl (by first | exact SX.at0 | exact SX.at1 | exact SX.at2 | exact SX.at3 | exact SX.at4 | exact SX.at5 | exact Z.at6 | exact Z.at7 | exact Z.at8 | exact Z.at9 | exact Z.at10 | exact Z.at11 | exact Z.at12) (hx.st (hs.sub (List.nil_sublist _))) (by first | rfl | assumption | (simp [ints_length]; done) | (simp [ints_length]; omega)) (by first | exact Z.ints_one | assumption | simp [Value.oneCell']) (by unfold maxLen; omega) (by omega) ?_
          clear hs; intro v55 w55 hs
          simp only [List.set_cons_zero, List.set_cons_succ] at hs
          obtain ⟨B26, c26, rfl⟩ : ∃ B26 c26, v55 = .slice B26 (0 + n) c26 := by
            first
            | (obtain ⟨B, c, h, -, -, -⟩ := SX.row_slv hs (j := 0) rfl; exact ⟨B, c, h⟩)
            | (obtain ⟨B, c, h, -, -, -⟩ := SX.row_slv hs (j := 1) rfl; exact ⟨B, c, h⟩)
            | (obtain ⟨B, c, h, -, -, -⟩ := SX.row_slv hs (j := 2) rfl; exact ⟨B, c, h⟩)
          rw [Nat.zero_add, List.nil_append] at hs
          refine Z.tk (Dn := fun _ => true) (i := 5) (fun _ => ⟨_, hs, by first | (simp; done) | exact fun e he => List.mem_append_right _ he⟩) ?_
          refine Z.t 6 rfl rfl rfl (by rfl) (by kernel_rfl) ⟨_, hs, by first | (simp; done) | exact fun e he => List.mem_append_right _ he⟩ (Z.Yd.buildL [(0, 1), (1, 1)] [.int .i64 0, .slice none 0 0] rfl rfl (by intro w; kernel_rfl)) ?_
          refine Z.tn 8 rfl rfl (by kernel_rfl) rfl trivial ?_
          first | refine Z.ZO.storeA rfl rfl hs rfl rfl (by kernel_rfl) (by first | (simp [Value.oneCell']; done) | (refine Z.all_one ?_; assumption)) (by first | exact SX.at0 | exact SX.at1 | exact SX.at2 | exact SX.at3 | exact SX.at4 | exact SX.at5 | exact Z.at6 | exact Z.at7 | exact Z.at8 | exact Z.at9 | exact Z.at10 | exact Z.at11 | exact Z.at12) (by rfl) ?_ | refine Z.ZO.storeP rfl rfl hs rfl rfl (by kernel_rfl) (by first | (simp [Value.oneCell']; done) | (refine Z.all_one ?_; assumption)) (by first | exact SX.at0 | exact SX.at1 | exact SX.at2 | exact SX.at3 | exact SX.at4 | exact SX.at5 | exact Z.at6 | exact Z.at7 | exact Z.at8 | exact Z.at9 | exact Z.at10 | exact Z.at11 | exact Z.at12) (by first | decide | (simp; done) | (simp; omega)) ?_ | refine Z.ZO.storePR rfl rfl hs rfl rfl (by kernel_rfl) (by first | (simp [Value.oneCell']; done) | (refine Z.all_one ?_; assumption)) (by first | exact SX.at0 | exact SX.at1 | exact SX.at2 | exact SX.at3 | exact SX.at4 | exact SX.at5 | exact Z.at6 | exact Z.at7 | exact Z.at8 | exact Z.at9 | exact Z.at10 | exact Z.at11 | exact Z.at12) (by first | decide | (simp; done) | (simp; omega)) ?_
          clear hs; intro ws hs
          simp only [Nat.zero_add, Nat.add_zero, Nat.reduceAdd, Int.reduceToNat, Nat.reduceMul, List.set_cons_zero, List.set_cons_succ, List.setIfInBounds_toArray] at hs
          try simp only [Z.putL, Nat.zero_add] at hs
          refine Z.tk (Dn := fun _ => true) (i := 8) (fun _ => ⟨_, hs, by first | (simp; done) | exact fun e he => List.mem_append_right _ he⟩) ?_
          refine Z.td (by rfl) (by kernel_rfl) ?_
          refine Z.only [2, 4, 7, 8, 10] rfl ?_
          refine Z.nthen ?_
          exact Z.meet (g10, _) (by refine ⟨?_, ?_, ?_, ?_, ?_, trivial⟩ <;> (first | rfl | (refine Z.lookv rfl ?_; simp; done) | (refine Z.lookv rfl ?_; simp; omega))) (by first | exact hs | exact hs.sel [1, 0, 2, 3, 4, 5] (by decide))
      · skip
        refine Z.ZO.alloc rfl rfl (by rfl) Try.zeroValue24 rfl hs ?_
        clear hs; intro g10 w10 hs
        refine Z.tk (Dn := fun _ => true) (i := 7) (fun _ => ⟨_, hs, by first | (simp; done) | exact fun e he => List.mem_append_right _ he⟩) ?_
        refine Z.tn 2 rfl rfl (by kernel_rfl) rfl trivial ?_
        refine Z.ZO.empty rfl rfl (by rfl) Try.underlying22 Try.sizeOf45 hs ?_
        clear hs; intro g52 w52 hs
        refine Z.tk (Dn := fun _ => true) (i := 2) (fun _ => ⟨_, hs, by first | (simp; done) | exact fun e he => List.mem_append_right _ he⟩) ?_
        refine Z.tn 5 rfl rfl (by kernel_rfl) rfl trivial ?_
        refine Z.ZO.appendG (i0 := Try.t45) (size := 4) (bytes := 32) rfl rfl (by rfl) hs Try.underlying22 (by kernel_rfl) rfl rfl rfl rfl (by decide) rfl rfl (by first | exact SX.at0 | exact SX.at1 | exact SX.at2 | exact SX.at3 | exact SX.at4 | exact SX.at5 | exact Z.at6 | exact Z.at7 | exact Z.at8 | exact Z.at9 | exact Z.at10 | exact Z.at11 | exact Z.at12) (hx.st (hs.sub (List.nil_sublist _))) (by first | rfl | assumption | (simp [ints_length]; done) | (simp [ints_length]; omega)) (by first | exact Z.ints_one | assumption | simp [Value.oneCell']) (by unfold maxLen; omega) (by omega) ?_
        clear hs; intro v55 w55 hs
        simp only [List.set_cons_zero, List.set_cons_succ] at hs
        obtain ⟨B26, c26, rfl⟩ : ∃ B26 c26, v55 = .slice B26 (0 + n) c26 := by
          first
          | (obtain ⟨B, c, h, -, -, -⟩ := SX.row_slv hs (j := 0) rfl; exact ⟨B, c, h⟩)
          | (obtain ⟨B, c, h, -, -, -⟩ := SX.row_slv hs (j := 1) rfl; exact ⟨B, c, h⟩)
          | (obtain ⟨B, c, h, -, -, -⟩ := SX.row_slv hs (j := 2) rfl; exact ⟨B, c, h⟩)
        rw [Nat.zero_add, List.nil_append] at hs
        refine Z.tk (Dn := fun _ => true) (i := 5) (fun _ => ⟨_, hs, by first | (simp; done) | exact fun e he => List.mem_append_right _ he⟩) ?_
        refine Z.t 6 rfl rfl rfl (by rfl) (by kernel_rfl) ⟨_, hs, by first | (simp; done) | exact fun e he => List.mem_append_right _ he⟩ (Z.Yd.buildL [(0, 1), (1, 1)] [.int .i64 0, .slice none 0 0] rfl rfl (by intro w; kernel_rfl)) ?_
        refine Z.tn 8 rfl rfl (by kernel_rfl) rfl trivial ?_
        first | refine Z.ZO.storeA rfl rfl hs rfl rfl (by kernel_rfl) (by first | (simp [Value.oneCell']; done) | (refine Z.all_one ?_; assumption)) (by first | exact SX.at0 | exact SX.at1 | exact SX.at2 | exact SX.at3 | exact SX.at4 | exact SX.at5 | exact Z.at6 | exact Z.at7 | exact Z.at8 | exact Z.at9 | exact Z.at10 | exact Z.at11 | exact Z.at12) (by rfl) ?_ | refine Z.ZO.storeP rfl rfl hs rfl rfl (by kernel_rfl) (by first | (simp [Value.oneCell']; done) | (refine Z.all_one ?_; assumption)) (by first | exact SX.at0 | exact SX.at1 | exact SX.at2 | exact SX.at3 | exact SX.at4 | exact SX.at5 | exact Z.at6 | exact Z.at7 | exact Z.at8 | exact Z.at9 | exact Z.at10 | exact Z.at11 | exact Z.at12) (by first | decide | (simp; done) | (simp; omega)) ?_ | refine Z.ZO.storePR rfl rfl hs rfl rfl (by kernel_rfl) (by first | (simp [Value.oneCell']; done) | (refine Z.all_one ?_; assumption)) (by first | exact SX.at0 | exact SX.at1 | exact SX.at2 | exact SX.at3 | exact SX.at4 | exact SX.at5 | exact Z.at6 | exact Z.at7 | exact Z.at8 | exact Z.at9 | exact Z.at10 | exact Z.at11 | exact Z.at12) (by first | decide | (simp; done) | (simp; omega)) ?_
        clear hs; intro ws hs
        simp only [Nat.zero_add, Nat.add_zero, Nat.reduceAdd, Int.reduceToNat, Nat.reduceMul, List.set_cons_zero, List.set_cons_succ, List.setIfInBounds_toArray] at hs
        try simp only [Z.putL, Nat.zero_add] at hs
        refine Z.tk (Dn := fun _ => true) (i := 8) (fun _ => ⟨_, hs, by first | (simp; done) | exact fun e he => List.mem_append_right _ he⟩) ?_
        refine Z.td (by rfl) (by kernel_rfl) ?_
        refine Z.only [2, 4, 7, 8, 10] rfl ?_
        refine Z.nthen ?_
        exact Z.meet (g10, _) (by refine ⟨?_, ?_, ?_, ?_, ?_, trivial⟩ <;> (first | rfl | (refine Z.lookv rfl ?_; simp; done) | (refine Z.lookv rfl ?_; simp; omega))) (by first | exact hs | exact hs.sel [1, 0, 2, 3, 4, 5] (by decide))
    · clear hs
      rintro ⟨g10, sv⟩ w6 hs
      refine Z.only [2, 4, 7, 8, 10] rfl ?_
      (try dsimp only at hs)
      obtain ⟨B0, d0, rfl, -, -, -⟩ := SX.row_slv hs (j := 0) rfl
      refine Z.seq ?_
      refine Z.region ?_
      refine Z.l rfl rfl (by rfl) (Z.keepS hs) (by first | exact Z.Yd.loadA _ rfl Try.isAgg24 (fun _ => Z.cellsB (by first | ((repeat (first | exact List.mem_cons_self | refine List.mem_cons_of_mem _ ?_ | refine List.mem_append_right _ ?_)); done) | fail)) (by exact Try.sizeOf24) | fail "load 7.0") ?_
      refine Z.lb 1 rfl ?_
      refine Z.le rfl trivial ?_
      refine Z.ZO.call rfl rfl (by rfl) rfl rfl Try.call24 rfl (rranges_any a1 sn A n c l _ (hx.st (hs.sub (List.nil_sublist _))) hl (by omega)) ?_
      rintro v7_2 w7_2 hy
      replace hs := hs.call hy
      clear hy
      try simp only [List.cons_append, List.nil_append, List.append_nil] at hs
      obtain ⟨Bw, cw, rfl, -, -, -⟩ := SX.row_slv hs (j := 0) rfl
      refine Z.le rfl trivial ?_
      refine Z.ZO.alloc rfl rfl (by rfl) Try.zeroValue49 rfl hs ?_
      clear hs; intro g11 w11 hs
      refine Z.le rfl trivial ?_
      first | refine Z.ZO.store rfl rfl hs Try.sizeOf49 rfl rfl rfl (by first | exact SX.at0 | exact SX.at1 | exact SX.at2 | exact SX.at3 | exact SX.at4 | exact SX.at5 | exact Z.at6 | exact Z.at7 | exact Z.at8 | exact Z.at9 | exact Z.at10 | exact Z.at11 | exact Z.at12) (by first | (simp; done) | (simp; omega)) ?_ | refine Z.ZO.storeR rfl rfl hs Try.sizeOf49 rfl rfl rfl (by first | exact SX.at0 | exact SX.at1 | exact SX.at2 | exact SX.at3 | exact SX.at4 | exact SX.at5 | exact Z.at6 | exact Z.at7 | exact Z.at8 | exact Z.at9 | exact Z.at10 | exact Z.at11 | exact Z.at12) (by first | omega | (simp [ints_length]; done) | (simp [ints_length]; omega)) ?_
      clear hs; intro ws hs
      simp only [Nat.zero_add, Nat.add_zero, Nat.reduceAdd, Int.reduceToNat, Nat.reduceMul, List.set_cons_zero, List.set_cons_succ, List.setIfInBounds_toArray] at hs
      refine Z.lnil ?_
      refine Z.only [2, 7, 8, 10, 11] rfl ?_
      refine Z.nthen ?_
      refine Z.seq ?_
      refine Z.region ?_
      refine Z.l rfl rfl (by rfl) (Z.keepS hs) (by first | exact Z.Yd.loadA _ rfl Try.isAgg24 (fun _ => Z.cellsB (by first | ((repeat (first | exact List.mem_cons_self | refine List.mem_cons_of_mem _ ?_ | refine List.mem_append_right _ ?_)); done) | fail)) (by exact Try.sizeOf24) | fail "load 8.0") ?_
      refine Z.lb 1 rfl ?_
      refine Z.le rfl trivial ?_
      refine Z.ZO.call rfl rfl (by rfl) rfl rfl Try.call25 rfl (ranges_any a1 sn B0 n d0 l _ (hs.slm (A := B0) (by first | ((repeat (first | exact List.mem_cons_self | refine List.mem_cons_of_mem _ ?_ | refine List.mem_append_right _ ?_)); done) | fail)) hl (by omega)) ?_
      rintro v8_2 w8_2 ⟨go, gs, Br, cr, rfl, hy⟩
      replace hs := hs.call hy
      clear hy
      try simp only [List.cons_append, List.nil_append, List.append_nil] at hs
      refine Z.lb 1 rfl ?_
      refine Z.lnil ?_
      refine Z.only [2, 7, 8, 10, 11, 12] rfl ?_
      refine Z.nthen ?_
      refine Z.seq ?_
      refine Z.seq ?_
      refine Z.region ?_
      refine Z.lb 1 rfl ?_
      refine Z.l rfl rfl (by rfl) (Z.keepS hs) (Z.Yd.fnNil rfl rfl Try.underlying52) ?_
      refine Z.lnil ?_
      refine Z.only [2, 7, 8, 10, 11, 12, 64] rfl ?_
      refine Z.nthen ?_
      refine Z.cond rfl (fun h => absurd h (by simp)) (fun hc9 => ?_)
      refine Z.skip ?_
      refine Z.nthen ?_
      refine Z.seq ?_
      refine Z.seq ?_
      refine Z.region ?_
      refine Z.lb 1 rfl ?_
      refine Z.lnil ?_
      refine Z.only [2, 7, 8, 10, 11, 12, 13] rfl ?_
      obtain ⟨K, hK⟩ : ∃ K, (rgs sn l).length = K := ⟨_, rfl⟩
      rw [hK] at hs hKn
      replace hs := hs.sel [5, 6, 7, 8, 3, 4, 0, 1, 2] (by decide)
      refine Z.nthen ?_
      refine Z.block ?_
      refine Z.loopk (ι := Nat × List Value) [2, 7, 8, 10, 11, 12] rfl (fun x => [(13, [], .int .i64 (x.1 : Int))]) (fun x wr => (x.1 ≤ n ∧ x.2.length = n * 4) ∧ SX.St w [] wr [SX.Ent.row (.slice B0 n d0) 45 4 n x.2, SX.Ent.blk g10 24 #[.int .i64 a1, .slice B0 n d0], SX.Ent.blk g8 4 #[.bool false], SX.Ent.blk g7 3 #[.int .i64 many], SX.Ent.blk g11 49 #[.slice Bw K cw], SX.Ent.row (.slice Bw K cw) 54 2 K ((rgs sn l).flatMap encP), SX.Ent.blk go 22 #[.slice Br n cr], SX.Ent.blk gs 3 #[.int .i64 sn], SX.Ent.row (.slice Br n cr) 45 4 n (l.flatMap NkV.cells)]) (fun x => n - x.1) (0, l.flatMap NkV.cells) (by refine ⟨?_, trivial⟩ <;> (first | rfl | (refine Z.lookv rfl ?_; simp; done) | (refine Z.lookv rfl ?_; simp; omega))) ⟨⟨Nat.zero_le _, hf⟩, hs⟩ ?_
      clear hs
      rintro ⟨i, ys⟩ w9 ⟨⟨hi, hys⟩, hs⟩
      refine Z.only [2, 7, 8, 10, 11, 12, 13] rfl ?_
      (try dsimp only at hs)
      dsimp only at hi hys
      refine Z.seq ?_
      refine Z.seq ?_
      refine Z.region ?_
      refine Z.lb 1 rfl ?_
      refine Z.l rfl rfl (by rfl) (Z.keepS hs) (Z.Yd.fieldA (m := 1) rfl (by kernel_rfl)) ?_
      refine Z.l rfl rfl (by rfl) (Z.keepS hs) (by first | exact Z.Yd.load rfl Try.isAgg22 (fun _ => Z.cellB (by first | ((repeat (first | exact List.mem_cons_self | refine List.mem_cons_of_mem _ ?_ | refine List.mem_append_right _ ?_)); done) | fail) rfl) | exact Z.Yd.load rfl Try.isAgg22 (fun _ => Z.cellO (by assumption) (by simp) (by assumption)) | fail "load 12.2") ?_
      refine Z.l rfl rfl (by rfl) (Z.keepS hs) (Z.Yd.lenS rfl Try.underlying22) ?_
      refine Z.lb 1 rfl ?_
      refine Z.lnil ?_
      refine Z.only [2, 7, 8, 10, 11, 12, 13, 69] rfl ?_
      refine Z.nthen ?_
      refine Z.cond rfl (fun hc12 => ?_) (fun hc12 => ?_)
      · first
          | (exfalso; simp at hc12 <;> omega)
          | (
            (try simp at hc12)
            obtain ⟨gB, cB, eB, -, -⟩ := row_form (j := 0) hs rfl (by omega)
            cases eB
            refine Z.skip ?_
            refine Z.nthen ?_
            refine Z.seq ?_
            refine Z.block ?_
            refine Z.region ?_
            refine Z.l rfl rfl (by rfl) (Z.keepS hs) (Z.Yd.fieldA (m := 1) rfl (by kernel_rfl)) ?_
            refine Z.l rfl rfl (by rfl) (Z.keepS hs) (by first | exact Z.Yd.load rfl Try.isAgg22 (fun _ => Z.cellB (by first | ((repeat (first | exact List.mem_cons_self | refine List.mem_cons_of_mem _ ?_ | refine List.mem_append_right _ ?_)); done) | fail) rfl) | exact Z.Yd.load rfl Try.isAgg22 (fun _ => Z.cellO (by assumption) (by simp) (by assumption)) | fail "load 14.1") ?_
            refine Z.lb 2 rfl ?_
            refine Z.l rfl rfl (by rfl) (Z.keepS hs) (Z.Yd.buildL [(0, 1), (1, 1), (2, 1), (3, 1)] [.int .i64 0, .bool false, .int .i64 0, .int .i64 0] rfl rfl (by intro w; kernel_rfl)) ?_
            refine Z.l rfl rfl (by rfl) (Z.keepS hs) (Z.Yd.elem rfl rfl Try.underlying22 Try.sizeOf45 (fun hG => ⟨(by first | omega | (have hG' := Z.gh rfl hG; simp at hG'; omega)), (by first | omega | (have hG' := Z.gh rfl hG; simp at hG'; omega))⟩)) ?_
            refine Z.le rfl trivial ?_
            first | refine Z.ZO.storeA rfl rfl hs rfl rfl (by kernel_rfl) (by first | (simp [Value.oneCell']; done) | (refine Z.all_one ?_; assumption)) (by first | exact SX.at0 | exact SX.at1 | exact SX.at2 | exact SX.at3 | exact SX.at4 | exact SX.at5 | exact Z.at6 | exact Z.at7 | exact Z.at8 | exact Z.at9 | exact Z.at10 | exact Z.at11 | exact Z.at12) (by rfl) ?_ | refine Z.ZO.storeP rfl rfl hs rfl rfl (by kernel_rfl) (by first | (simp [Value.oneCell']; done) | (refine Z.all_one ?_; assumption)) (by first | exact SX.at0 | exact SX.at1 | exact SX.at2 | exact SX.at3 | exact SX.at4 | exact SX.at5 | exact Z.at6 | exact Z.at7 | exact Z.at8 | exact Z.at9 | exact Z.at10 | exact Z.at11 | exact Z.at12) (by first | decide | (simp; done) | (simp; omega)) ?_ | refine Z.ZO.storePR rfl rfl hs rfl rfl (by kernel_rfl) (by first | (simp [Value.oneCell']; done) | (refine Z.all_one ?_; assumption)) (by first | exact SX.at0 | exact SX.at1 | exact SX.at2 | exact SX.at3 | exact SX.at4 | exact SX.at5 | exact Z.at6 | exact Z.at7 | exact Z.at8 | exact Z.at9 | exact Z.at10 | exact Z.at11 | exact Z.at12) (by first | decide | (simp; done) | (simp; omega)) ?_
            clear hs; intro ws hs
            simp only [Nat.zero_add, Nat.add_zero, Nat.reduceAdd, Int.reduceToNat, Nat.reduceMul, List.set_cons_zero, List.set_cons_succ, List.setIfInBounds_toArray] at hs
            try simp only [Z.putL, Nat.zero_add] at hs
            refine Z.lnil ?_
            refine Z.only [2, 7, 8, 10, 11, 12, 13] rfl ?_
            refine Z.nblock ?_
            refine Z.nthen ?_
            refine Z.region ?_
            refine Z.lb 1 rfl ?_
            refine Z.l rfl rfl (by rfl) (Z.keepS hs) (Z.Yd.add rfl rfl (fun hG => Z.wi64 (by first | omega | (have hG' := Z.gh rfl hG; simp at hG'; omega)))) ?_
            refine Z.lb 1 rfl ?_
            refine Z.lnil ?_
            refine Z.only [2, 7, 8, 10, 11, 12, 13] rfl ?_
            refine Z.nthen ?_
            refine Z.again (i + 1, _) (by refine ⟨?_, ?_, ?_, ?_, ?_, ?_, ?_, trivial⟩ <;> (first | rfl | (refine Z.lookv rfl ?_; simp; done) | (refine Z.lookv rfl ?_; simp; omega))) ⟨⟨by simp only; omega, ?_⟩, hs⟩ (by simp only; omega)
            first
            | (simp only [Z.putL_length, List.length_set]; exact hys)
            | (rw [Z.putL_length _ _ _ (by simp; omega)]; exact hys)
            )
      · first
          | (exfalso; simp at hc12 <;> omega)
          | (
            (try simp at hc12)
            refine Z.exit ?_
            refine Z.xthen ?_
            refine Z.xthen ?_
            refine Z.xblock ?_
            refine Z.nthen ?_
            refine Z.seq ?_
            refine Z.seq ?_
            refine Z.region ?_
            refine Z.le rfl trivial ?_
            refine Z.ZO.alloc rfl rfl (by rfl) Try.zeroValue3 rfl hs ?_
            clear hs; intro g14 w14 hs
            refine Z.le rfl trivial ?_
            first | refine Z.ZO.store rfl rfl hs Try.sizeOf3 rfl rfl rfl (by first | exact SX.at0 | exact SX.at1 | exact SX.at2 | exact SX.at3 | exact SX.at4 | exact SX.at5 | exact Z.at6 | exact Z.at7 | exact Z.at8 | exact Z.at9 | exact Z.at10 | exact Z.at11 | exact Z.at12) (by first | (simp; done) | (simp; omega)) ?_ | refine Z.ZO.storeR rfl rfl hs Try.sizeOf3 rfl rfl rfl (by first | exact SX.at0 | exact SX.at1 | exact SX.at2 | exact SX.at3 | exact SX.at4 | exact SX.at5 | exact Z.at6 | exact Z.at7 | exact Z.at8 | exact Z.at9 | exact Z.at10 | exact Z.at11 | exact Z.at12) (by first | omega | (simp [ints_length]; done) | (simp [ints_length]; omega)) ?_
            clear hs; intro ws hs
            simp only [Nat.zero_add, Nat.add_zero, Nat.reduceAdd, Int.reduceToNat, Nat.reduceMul, List.set_cons_zero, List.set_cons_succ, List.setIfInBounds_toArray] at hs
            refine Z.lnil ?_
            refine Z.only [7, 8, 11, 12, 14] rfl ?_
            replace hs := hs.sel [0, 3, 4, 5, 6, 7, 8, 9] (by decide)
            refine Z.nthen ?_
            refine Z.block ?_
            refine Z.loopD (ι := Nat × Nat × List Nat) (fun x => x.2.2.map Z.mkD) [7, 8, 11, 12] rfl (fun x => [(14, [], .pointer (some ⟨x.1, 0, none⟩))]) (fun x wr => x.2.1 ≤ 2 ∧ SX.St w [] wr (SX.Ent.blk x.1 3 #[.int .i64 (x.2.1 : Int)] :: SX.Ent.blk g8 4 #[.bool false] :: SX.Ent.blk g7 3 #[.int .i64 many] :: SX.Ent.blk g11 49 #[.slice Bw K cw] :: SX.Ent.row (.slice Bw K cw) 54 2 K ((rgs sn l).flatMap encP) :: SX.Ent.blk go 22 #[.slice Br n cr] :: SX.Ent.blk gs 3 #[.int .i64 sn] :: SX.Ent.row (.slice Br n cr) 45 4 n (l.flatMap NkV.cells) :: x.2.2.map Z.mkE)) (fun x => 2 - x.2.1) (g14, 0, []) rfl (by refine ⟨?_, trivial⟩ <;> (first | rfl | (refine Z.lookv rfl ?_; simp; done) | (refine Z.lookv rfl ?_; simp; omega))) ⟨by simp only; omega, hs⟩ ?_
            clear hs
            rintro ⟨g14, turn, ds⟩ w2 ⟨hb, hs⟩
            refine Z.only [7, 8, 11, 12, 14] rfl ?_
            (try dsimp only at hs)
            dsimp only at hb
            refine Z.seq ?_
            refine Z.seq ?_
            refine Z.region ?_
            refine Z.l rfl rfl (by rfl) (Z.keepS hs) (by first | exact Z.Yd.load rfl Try.isAgg3 (fun _ => Z.cellB (by first | ((repeat (first | exact List.mem_cons_self | refine List.mem_cons_of_mem _ ?_ | refine List.mem_append_right _ ?_)); done) | fail) rfl) | exact Z.Yd.load rfl Try.isAgg3 (fun _ => Z.cellO (by assumption) (by simp) (by assumption)) | fail "load 16.0") ?_
            refine Z.lb 1 rfl ?_
            refine Z.lnil ?_
            refine Z.only [7, 8, 11, 12, 14, 79] rfl ?_
            refine Z.nthen ?_
            refine Z.cond rfl (fun hc16 => ?_) (fun hc16 => ?_)
            · first
                | (exfalso; simp at hc16 <;> omega)
                | (
                  (try simp at hc16)
                  have ht2 : turn < 2 := by omega
                  refine Z.skip ?_
                  refine Z.nthen ?_
                  refine Z.seq ?_
                  refine Z.block ?_
                  refine Z.seq ?_
                  refine Z.region ?_
                  refine Z.le rfl trivial ?_
                  refine Z.ZO.alloc rfl rfl (by rfl) Try.zeroValue3 rfl hs ?_
                  clear hs; intro g15 w15 hs
                  refine Z.le rfl trivial ?_
                  first | refine Z.ZO.store rfl rfl hs Try.sizeOf3 rfl rfl rfl (by first | exact SX.at0 | exact SX.at1 | exact SX.at2 | exact SX.at3 | exact SX.at4 | exact SX.at5 | exact Z.at6 | exact Z.at7 | exact Z.at8 | exact Z.at9 | exact Z.at10 | exact Z.at11 | exact Z.at12) (by first | (simp; done) | (simp; omega)) ?_ | refine Z.ZO.storeR rfl rfl hs Try.sizeOf3 rfl rfl rfl (by first | exact SX.at0 | exact SX.at1 | exact SX.at2 | exact SX.at3 | exact SX.at4 | exact SX.at5 | exact Z.at6 | exact Z.at7 | exact Z.at8 | exact Z.at9 | exact Z.at10 | exact Z.at11 | exact Z.at12) (by first | omega | (simp [ints_length]; done) | (simp [ints_length]; omega)) ?_
                  clear hs; intro ws hs
                  simp only [Nat.zero_add, Nat.add_zero, Nat.reduceAdd, Int.reduceToNat, Nat.reduceMul, List.set_cons_zero, List.set_cons_succ, List.setIfInBounds_toArray] at hs
                  refine Z.lnil ?_
                  refine Z.only [7, 8, 11, 12, 14, 15] rfl ?_
                  refine Z.nthen ?_
                  refine Z.seq ?_
                  refine Z.seq ?_
                  refine Z.region ?_
                  refine Z.lb 1 rfl ?_
                  refine Z.lnil ?_
                  refine Z.only [7, 8, 11, 12, 14, 15, 82] rfl ?_
                  refine Z.nthen ?_
                  refine Z.block ?_
                  refine Z.rangeFunc (ps := [83, 84]) (L0 := SX.Ent.blk g15 3 #[.int .i64 0] :: SX.Ent.blk g14 3 #[.int .i64 (turn : Int)] :: SX.Ent.blk g8 4 #[.bool false] :: SX.Ent.blk g7 3 #[.int .i64 many] :: SX.Ent.blk g11 49 #[.slice Bw K cw] :: SX.Ent.row (.slice Bw K cw) 54 2 K ((rgs sn l).flatMap encP) :: ds.map Z.mkE) (ranges_seq go gs _ _ n cr cr Br l sn hl (by omega)) rfl Try.call51 ((Z.toRange (C := [_, _, _, _, _, _]) (E0 := [_, _, _]) hs)) trivial (by rintro x args Lx ⟨rfl, rfl⟩; rfl) rfl (fun pre L => (turn = 0 → (pre = [] ∨ (pre.length : Int) < many)) ∧ L = SX.Ent.blk g15 3 #[.int .i64 (pre.length : Int)] :: SX.Ent.blk g14 3 #[.int .i64 (turn : Int)] :: SX.Ent.blk g8 4 #[.bool false] :: SX.Ent.blk g7 3 #[.int .i64 many] :: SX.Ent.blk g11 49 #[.slice Bw K cw] :: SX.Ent.row (.slice Bw K cw) 54 2 K ((rgs sn l).flatMap encP) :: ds.map Z.mkE) (fun c L => (turn = 0 ∧ c = .exit 4) ∧ ∃ N : Nat, (N : Int) = min (K : Int) (max 1 many) ∧ L = SX.Ent.blk g15 3 #[.int .i64 (N : Int)] :: SX.Ent.blk g14 3 #[.int .i64 (turn : Int)] :: SX.Ent.blk g8 4 #[.bool false] :: SX.Ent.blk g7 3 #[.int .i64 many] :: SX.Ent.blk g11 49 #[.slice Bw K cw] :: SX.Ent.row (.slice Bw K cw) 54 2 K ((rgs sn l).flatMap encP) :: ds.map Z.mkE) ⟨fun _ => .inl rfl, rfl⟩ ?_ ?_ ?_
                  · clear hs
                    rintro l4 Z4 pre x args W4 L4 Lx ⟨hi, rfl⟩ hpre ⟨rfl, rfl⟩ hs
                    refine ⟨_, rfl, ?_⟩
                    refine Z.seq ?_
                    refine Z.region ?_
                    refine Z.lb 1 rfl ?_
                    refine Z.lnil ?_
                    refine Z.only [7, 8, 11, 12, 14, 15, 16, 84] rfl ?_
                    refine Z.nthen ?_
                    refine Z.region ?_
                    refine Z.lb 1 rfl ?_
                    refine Z.lnil ?_
                    refine Z.only [7, 8, 11, 12, 14, 15, 16, 17] rfl ?_
                    refine Z.nthen ?_
                    refine Z.assigned (SX.Ent.blk g15 3 #[.int .i64 (pre.length : Int)] :: SX.Ent.blk g14 3 #[.int .i64 (turn : Int)] :: SX.Ent.blk g8 4 #[.bool false] :: SX.Ent.blk g7 3 #[.int .i64 many] :: SX.Ent.blk g11 49 #[.slice Bw K cw] :: SX.Ent.row (.slice Bw K cw) 54 2 K ((rgs sn l).flatMap encP) :: ds.map Z.mkE) hs ?_
                    clear hs
                    intro Wb4 Zb4 hs
                    refine Z.block ?_
                    refine Z.seq ?_
                    refine Z.seq ?_
                    refine Z.region ?_
                    have hpl := hpre.length_le
                    simp only [List.length_append, List.length_singleton] at hpl
                    rw [hK] at hpl
                    have hxa : (rgs sn l)[pre.length]? = some x := by
                      obtain ⟨t, ht⟩ := hpre
                      rw [← ht]
                      simp
                    simp only [List.cons_append] at hs
                    obtain ⟨gB, cB, eB, -, -⟩ := row_form (j := 5) hs rfl (by omega)
                    cases eB
                    refine Z.l rfl rfl (by rfl) (Z.keepS hs) (by first | exact Z.Yd.load rfl Try.isAgg3 (fun _ => Z.cellB (by first | ((repeat (first | exact List.mem_cons_self | refine List.mem_cons_of_mem _ ?_ | refine List.mem_append_right _ ?_)); done) | fail) rfl) | exact Z.Yd.load rfl Try.isAgg3 (fun _ => Z.cellO (by assumption) (by simp) (by assumption)) | fail "load 22.0") ?_
                    refine Z.l rfl rfl (by rfl) (Z.keepS hs) (by first | exact Z.Yd.load rfl Try.isAgg49 (fun _ => Z.cellB (by first | ((repeat (first | exact List.mem_cons_self | refine List.mem_cons_of_mem _ ?_ | refine List.mem_append_right _ ?_)); done) | fail) rfl) | exact Z.Yd.load rfl Try.isAgg49 (fun _ => Z.cellO (by assumption) (by simp) (by assumption)) | fail "load 22.1") ?_
                    refine Z.l rfl rfl (by rfl) (Z.keepS hs) (Z.Yd.lenS rfl Try.underlying49) ?_
                    refine Z.lb 2 rfl ?_
                    refine Z.yes (s := 89) (b := false) rfl ((by simp; omega)) rfl ?_
                    refine Z.l rfl rfl (by rfl) (Z.keepS hs) (by first | exact Z.Yd.load rfl Try.isAgg49 (fun _ => Z.cellB (by first | ((repeat (first | exact List.mem_cons_self | refine List.mem_cons_of_mem _ ?_ | refine List.mem_append_right _ ?_)); done) | fail) rfl) | exact Z.Yd.load rfl Try.isAgg49 (fun _ => Z.cellO (by assumption) (by simp) (by assumption)) | fail "load 22.5") ?_
                    refine Z.l rfl rfl (by rfl) (Z.keepS hs) (by first | exact Z.Yd.load rfl Try.isAgg3 (fun _ => Z.cellB (by first | ((repeat (first | exact List.mem_cons_self | refine List.mem_cons_of_mem _ ?_ | refine List.mem_append_right _ ?_)); done) | fail) rfl) | exact Z.Yd.load rfl Try.isAgg3 (fun _ => Z.cellO (by assumption) (by simp) (by assumption)) | fail "load 22.6") ?_
                    refine Z.l rfl rfl (by rfl) (Z.keepS hs) (Z.Yd.elem rfl rfl Try.underlying49 Try.sizeOf54 (fun hG => ⟨(by first | omega | (have hG' := Z.gh rfl hG; simp at hG'; omega)), (by first | omega | (have hG' := Z.gh rfl hG; simp at hG'; omega))⟩)) ?_
                    refine Z.l rfl rfl (by rfl) (Z.keepS hs) (Z.Yd.loadA _ rfl Try.isAgg54 (fun _ => Z.cellsRf (by first | ((repeat (first | exact List.mem_cons_self | refine List.mem_cons_of_mem _ ?_ | refine List.mem_append_right _ ?_)); done) | fail) encP_len hxa rfl) (by exact Try.sizeOf54)) ?_
                    refine Z.lb 2 rfl ?_
                    refine Z.l rfl rfl (by rfl) (Z.keepS hs) (Z.Yd.buildL [(0, 1), (1, 1)] [.int .i64 0, .int .i64 0] rfl rfl (by intro w; kernel_rfl)) ?_
                    refine Z.l rfl rfl (by rfl) (Z.keepS hs) (Z.Yd.neA (.ar 2 1 (.i)) rfl rfl rfl rfl (by kernel_rfl) (by kernel_rfl) rfl) ?_
                    refine Z.yes (s := 89) (b := false) rfl rfl rfl ?_
                    refine Z.l rfl rfl (by rfl) (Z.keepS hs) (Z.Yd.pickF rfl rfl) ?_
                    refine Z.lnil ?_
                    refine Z.only [7, 8, 11, 12, 14, 15, 98] rfl ?_
                    refine Z.nthen ?_
                    refine Z.cond rfl (fun h => absurd h (by simp)) (fun hc22 => ?_)
                    refine Z.skip ?_
                    refine Z.nthen ?_
                    refine Z.seq ?_
                    refine Z.region ?_
                    refine Z.l rfl rfl (by rfl) (Z.keepS hs) (by first | exact Z.Yd.load rfl Try.isAgg3 (fun _ => Z.cellB (by first | ((repeat (first | exact List.mem_cons_self | refine List.mem_cons_of_mem _ ?_ | refine List.mem_append_right _ ?_)); done) | fail) rfl) | exact Z.Yd.load rfl Try.isAgg3 (fun _ => Z.cellO (by assumption) (by simp) (by assumption)) | fail "load 24.0") ?_
                    refine Z.l rfl rfl (by rfl) (Z.keepS hs) (Z.Yd.add rfl rfl (fun hG => Z.wi64 (by first | omega | (have hG' := Z.gh rfl hG; simp at hG'; omega)))) ?_
                    refine Z.le rfl trivial ?_
                    first | refine Z.ZO.store rfl rfl hs Try.sizeOf3 rfl rfl rfl (by first | exact SX.at0 | exact SX.at1 | exact SX.at2 | exact SX.at3 | exact SX.at4 | exact SX.at5 | exact Z.at6 | exact Z.at7 | exact Z.at8 | exact Z.at9 | exact Z.at10 | exact Z.at11 | exact Z.at12) (by first | (simp; done) | (simp; omega)) ?_ | refine Z.ZO.storeR rfl rfl hs Try.sizeOf3 rfl rfl rfl (by first | exact SX.at0 | exact SX.at1 | exact SX.at2 | exact SX.at3 | exact SX.at4 | exact SX.at5 | exact Z.at6 | exact Z.at7 | exact Z.at8 | exact Z.at9 | exact Z.at10 | exact Z.at11 | exact Z.at12) (by first | omega | (simp [ints_length]; done) | (simp [ints_length]; omega)) ?_
                    clear hs; intro ws hs
                    simp only [Nat.zero_add, Nat.add_zero, Nat.reduceAdd, Int.reduceToNat, Nat.reduceMul, List.set_cons_zero, List.set_cons_succ, List.setIfInBounds_toArray] at hs
                    refine Z.lnil ?_
                    refine Z.only [7, 8, 11, 12, 14, 15] rfl ?_
                    refine Z.nthen ?_
                    refine Z.seq ?_
                    refine Z.region ?_
                    refine Z.l rfl rfl (by rfl) (Z.keepS hs) (by first | exact Z.Yd.load rfl Try.isAgg3 (fun _ => Z.cellB (by first | ((repeat (first | exact List.mem_cons_self | refine List.mem_cons_of_mem _ ?_ | refine List.mem_append_right _ ?_)); done) | fail) rfl) | exact Z.Yd.load rfl Try.isAgg3 (fun _ => Z.cellO (by assumption) (by simp) (by assumption)) | fail "load 25.0") ?_
                    refine Z.lb 2 rfl ?_
                    refine Z.split (s := 103) rfl (fun hsp103 => ?_) (fun hsp103 => ?_)
                    · first
                        | (exfalso; simp at hsp103 <;> omega)
                        | (
                          refine Z.yes (s := 103) (b := true) rfl hsp103 rfl ?_
                          (try simp at hsp103)
                          refine Z.l rfl rfl (by rfl) (Z.keepS hs) (by first | exact Z.Yd.load rfl Try.isAgg3 (fun _ => Z.cellB (by first | ((repeat (first | exact List.mem_cons_self | refine List.mem_cons_of_mem _ ?_ | refine List.mem_append_right _ ?_)); done) | fail) rfl) | exact Z.Yd.load rfl Try.isAgg3 (fun _ => Z.cellO (by assumption) (by simp) (by assumption)) | fail "load 25.3") ?_
                          refine Z.l rfl rfl (by rfl) (Z.keepS hs) (by first | exact Z.Yd.load rfl Try.isAgg3 (fun _ => Z.cellB (by first | ((repeat (first | exact List.mem_cons_self | refine List.mem_cons_of_mem _ ?_ | refine List.mem_append_right _ ?_)); done) | fail) rfl) | exact Z.Yd.load rfl Try.isAgg3 (fun _ => Z.cellO (by assumption) (by simp) (by assumption)) | fail "load 25.4") ?_
                          refine Z.lb 1 rfl ?_
                          refine Z.yes (s := 103) (b := true) rfl rfl rfl ?_
                          refine Z.l rfl rfl (by rfl) (Z.keepS hs) (Z.Yd.pickT rfl rfl) ?_
                          refine Z.lnil ?_
                          refine Z.only [7, 8, 11, 12, 14, 15, 107] rfl ?_
                          refine Z.nthen ?_
                          refine Z.cond rfl (fun hc25 => ?_) (fun hc25 => ?_)
                          · first
                              | (exfalso; simp at hc25 <;> omega)
                              | (
                                (try simp at hc25)
                                refine Z.exit ?_
                                refine Z.xblockn rfl ?_
                                refine Z.rexit _ ⟨⟨by omega, rfl⟩, pre.length + 1, by rcases hi (by omega) with h | h <;> simp_all <;> omega, rfl⟩ hs
                                )
                          · first
                              | (exfalso; simp at hc25 <;> omega)
                              | (
                                (try simp at hc25)
                                refine Z.skip ?_
                                refine Z.nblock ?_
                                have e : ((pre ++ [x]).length : Int) = pre.length + 1 := by simp
                                refine Z.rnorm _ ⟨fun h => .inr (by rw [e]; omega), by rw [e]⟩ hs
                                )
                          )
                    · first
                        | (exfalso; simp at hsp103 <;> omega)
                        | (
                          refine Z.yes (s := 103) (b := false) rfl hsp103 rfl ?_
                          (try simp at hsp103)
                          refine Z.ls rfl rfl rfl (by rfl) ?_
                          refine Z.ls rfl rfl rfl (by rfl) ?_
                          refine Z.ls rfl rfl rfl (by rfl) ?_
                          refine Z.l rfl rfl (by rfl) (Z.keepS hs) (Z.Yd.pickF rfl rfl) ?_
                          refine Z.lnil ?_
                          refine Z.only [7, 8, 11, 12, 14, 15, 107] rfl ?_
                          refine Z.nthen ?_
                          refine Z.cond rfl (fun hc25 => ?_) (fun hc25 => ?_)
                          · first
                              | (exfalso; simp at hc25 <;> omega)
                              | (
                                (try simp at hc25)
                                refine Z.exit ?_
                                refine Z.xblockn rfl ?_
                                refine Z.rexit _ ⟨⟨by omega, rfl⟩, pre.length + 1, by rcases hi (by omega) with h | h <;> simp_all <;> omega, rfl⟩ hs
                                )
                          · first
                              | (exfalso; simp at hc25 <;> omega)
                              | (
                                (try simp at hc25)
                                refine Z.skip ?_
                                refine Z.nblock ?_
                                have e : ((pre ++ [x]).length : Int) = pre.length + 1 := by simp
                                refine Z.rnorm _ ⟨fun h => .inr (by rw [e]; omega), by rw [e]⟩ hs
                                )
                          )
                  · clear hs
                    rintro Dd W4 L4 hi hs
                    obtain ⟨hi, rfl⟩ := hi
                    rw [hK] at hs hi
                    have hn0 : turn = 0 → (K : Int) = min (K : Int) (max 1 many) := fun h => by
                      rcases hi h with h1 | h1
                      · rw [h1] at hK; simp at hK; omega
                      · omega
                    replace hs := Z.fromRange (C := [_, _, _, _, _, _]) (E0 := [_, _, _]) hs
                    refine Z.nblock ?_
                    refine Z.nthen ?_
                    refine Z.seq ?_
                    refine Z.region ?_
                    refine Z.l rfl rfl (by rfl) (Z.keepS hs) (by first | exact Z.Yd.load rfl Try.isAgg3 (fun _ => Z.cellB (by first | ((repeat (first | exact List.mem_cons_self | refine List.mem_cons_of_mem _ ?_ | refine List.mem_append_right _ ?_)); done) | fail) rfl) | exact Z.Yd.load rfl Try.isAgg3 (fun _ => Z.cellO (by assumption) (by simp) (by assumption)) | fail "load 26.0") ?_
                    refine Z.lb 2 rfl ?_
                    refine Z.split (s := 110) rfl (fun hsp110 => ?_) (fun hsp110 => ?_)
                    · first
                        | (exfalso; simp at hsp110 <;> omega)
                        | (
                          refine Z.yes (s := 110) (b := true) rfl hsp110 rfl ?_
                          (try simp at hsp110)
                          refine Z.l rfl rfl (by rfl) (Z.keepS hs) (by first | exact Z.Yd.load rfl Try.isAgg3 (fun _ => Z.cellB (by first | ((repeat (first | exact List.mem_cons_self | refine List.mem_cons_of_mem _ ?_ | refine List.mem_append_right _ ?_)); done) | fail) rfl) | exact Z.Yd.load rfl Try.isAgg3 (fun _ => Z.cellO (by assumption) (by simp) (by assumption)) | fail "load 26.3") ?_
                          refine Z.l rfl rfl (by rfl) (Z.keepS hs) (by first | exact Z.Yd.load rfl Try.isAgg49 (fun _ => Z.cellB (by first | ((repeat (first | exact List.mem_cons_self | refine List.mem_cons_of_mem _ ?_ | refine List.mem_append_right _ ?_)); done) | fail) rfl) | exact Z.Yd.load rfl Try.isAgg49 (fun _ => Z.cellO (by assumption) (by simp) (by assumption)) | fail "load 26.4") ?_
                          refine Z.l rfl rfl (by rfl) (Z.keepS hs) (Z.Yd.lenS rfl Try.underlying49) ?_
                          refine Z.l rfl rfl (by rfl) (Z.keepS hs) (by first | exact Z.Yd.load rfl Try.isAgg3 (fun _ => Z.cellB (by first | ((repeat (first | exact List.mem_cons_self | refine List.mem_cons_of_mem _ ?_ | refine List.mem_append_right _ ?_)); done) | fail) rfl) | exact Z.Yd.load rfl Try.isAgg3 (fun _ => Z.cellO (by assumption) (by simp) (by assumption)) | fail "load 26.6") ?_
                          refine Z.l rfl rfl (by rfl) (Z.keepS hs) (Z.Yd.max rfl rfl) ?_
                          refine Z.l rfl rfl (by rfl) (Z.keepS hs) (Z.Yd.min rfl rfl) ?_
                          refine Z.lb 1 rfl ?_
                          refine Z.yes (s := 110) (b := true) rfl rfl rfl ?_
                          refine Z.l rfl rfl (by rfl) (Z.keepS hs) (Z.Yd.pickT rfl rfl) ?_
                          refine Z.lb 1 rfl ?_
                          refine Z.yes (s := 119) (b := false) rfl ((by first | (simp; done) | (have h := hn0 (by omega); simp [← h]; done) | (exfalso; omega))) rfl ?_
                          refine Z.l rfl rfl (by rfl) (Z.keepS hs) (by first | exact Z.Yd.load rfl Try.isAgg3 (fun _ => Z.cellB (by first | ((repeat (first | exact List.mem_cons_self | refine List.mem_cons_of_mem _ ?_ | refine List.mem_append_right _ ?_)); done) | fail) rfl) | exact Z.Yd.load rfl Try.isAgg3 (fun _ => Z.cellO (by assumption) (by simp) (by assumption)) | fail "load 26.12") ?_
                          refine Z.lb 2 rfl ?_
                          refine Z.yes (s := 119) (b := false) rfl rfl rfl ?_
                          refine Z.split (s := 122) rfl (fun hsp122 => ?_) (fun hsp122 => ?_)
                          · first
                              | (exfalso; simp at hsp122 <;> omega)
                              | (
                                refine Z.yes (s := 122) (b := true) rfl hsp122 rfl ?_
                                (try simp at hsp122)
                                refine Z.l rfl rfl (by rfl) (Z.keepS hs) (by first | exact Z.Yd.load rfl Try.isAgg3 (fun _ => Z.cellB (by first | ((repeat (first | exact List.mem_cons_self | refine List.mem_cons_of_mem _ ?_ | refine List.mem_append_right _ ?_)); done) | fail) rfl) | exact Z.Yd.load rfl Try.isAgg3 (fun _ => Z.cellO (by assumption) (by simp) (by assumption)) | fail "load 26.15") ?_
                                refine Z.l rfl rfl (by rfl) (Z.keepS hs) (by first | exact Z.Yd.load rfl Try.isAgg49 (fun _ => Z.cellB (by first | ((repeat (first | exact List.mem_cons_self | refine List.mem_cons_of_mem _ ?_ | refine List.mem_append_right _ ?_)); done) | fail) rfl) | exact Z.Yd.load rfl Try.isAgg49 (fun _ => Z.cellO (by assumption) (by simp) (by assumption)) | fail "load 26.16") ?_
                                refine Z.l rfl rfl (by rfl) (Z.keepS hs) (Z.Yd.lenS rfl Try.underlying49) ?_
                                refine Z.lb 1 rfl ?_
                                refine Z.yes (s := 122) (b := true) rfl rfl rfl ?_
                                refine Z.l rfl rfl (by rfl) (Z.keepS hs) (Z.Yd.pickT rfl rfl) ?_
                                refine Z.yes (s := 119) (b := false) rfl rfl rfl ?_
                                refine Z.l rfl rfl (by rfl) (Z.keepS hs) (Z.Yd.pickF rfl rfl) ?_
                                refine Z.lnil ?_
                                refine Z.only [7, 8, 11, 12, 14, 128] rfl ?_
                                refine Z.nthen ?_
                                refine Z.cond rfl (fun h => absurd h (by first | (simp; done) | (have h := hn0 (by omega); simp [← h]; done) | (exfalso; omega))) (fun hc26 => ?_)
                                refine Z.skip ?_
                                refine Z.nblock ?_
                                refine Z.nthen ?_
                                refine Z.seq ?_
                                refine Z.seq ?_
                                refine Z.region ?_
                                refine Z.l rfl rfl (by rfl) (Z.keepS hs) (by first | exact Z.Yd.load rfl Try.isAgg3 (fun _ => Z.cellB (by first | ((repeat (first | exact List.mem_cons_self | refine List.mem_cons_of_mem _ ?_ | refine List.mem_append_right _ ?_)); done) | fail) rfl) | exact Z.Yd.load rfl Try.isAgg3 (fun _ => Z.cellO (by assumption) (by simp) (by assumption)) | fail "load 28.0") ?_
                                refine Z.lnil ?_
                                refine Z.only [7, 8, 11, 12, 129] rfl ?_
                                refine Z.nthen ?_
                                refine Z.region ?_
                                refine Z.le rfl trivial ?_
                                refine Z.ZO.alloc rfl rfl (by rfl) Try.zeroValue3 rfl hs ?_
                                clear hs; intro g14 w14 hs
                                refine Z.le rfl trivial ?_
                                first | refine Z.ZO.store rfl rfl hs Try.sizeOf3 rfl rfl rfl (by first | exact SX.at0 | exact SX.at1 | exact SX.at2 | exact SX.at3 | exact SX.at4 | exact SX.at5 | exact Z.at6 | exact Z.at7 | exact Z.at8 | exact Z.at9 | exact Z.at10 | exact Z.at11 | exact Z.at12) (by first | (simp; done) | (simp; omega)) ?_ | refine Z.ZO.storeR rfl rfl hs Try.sizeOf3 rfl rfl rfl (by first | exact SX.at0 | exact SX.at1 | exact SX.at2 | exact SX.at3 | exact SX.at4 | exact SX.at5 | exact Z.at6 | exact Z.at7 | exact Z.at8 | exact Z.at9 | exact Z.at10 | exact Z.at11 | exact Z.at12) (by first | omega | (simp [ints_length]; done) | (simp [ints_length]; omega)) ?_
                                clear hs; intro ws hs
                                simp only [Nat.zero_add, Nat.add_zero, Nat.reduceAdd, Int.reduceToNat, Nat.reduceMul, List.set_cons_zero, List.set_cons_succ, List.setIfInBounds_toArray] at hs
                                refine Z.lnil ?_
                                refine Z.only [7, 8, 11, 12, 14] rfl ?_
                                refine Z.nthen ?_
                                refine Z.region ?_
                                refine Z.l rfl rfl (by rfl) (Z.keepS hs) (by first | exact Z.Yd.load rfl Try.isAgg3 (fun _ => Z.cellB (by first | ((repeat (first | exact List.mem_cons_self | refine List.mem_cons_of_mem _ ?_ | refine List.mem_append_right _ ?_)); done) | fail) rfl) | exact Z.Yd.load rfl Try.isAgg3 (fun _ => Z.cellO (by assumption) (by simp) (by assumption)) | fail "load 17.0") ?_
                                refine Z.l rfl rfl (by rfl) (Z.keepS hs) (Z.Yd.add rfl rfl (fun hG => Z.wi64 (by first | omega | (have hG' := Z.gh rfl hG; simp at hG'; omega)))) ?_
                                refine Z.le rfl trivial ?_
                                first | refine Z.ZO.store rfl rfl hs Try.sizeOf3 rfl rfl rfl (by first | exact SX.at0 | exact SX.at1 | exact SX.at2 | exact SX.at3 | exact SX.at4 | exact SX.at5 | exact Z.at6 | exact Z.at7 | exact Z.at8 | exact Z.at9 | exact Z.at10 | exact Z.at11 | exact Z.at12) (by first | (simp; done) | (simp; omega)) ?_ | refine Z.ZO.storeR rfl rfl hs Try.sizeOf3 rfl rfl rfl (by first | exact SX.at0 | exact SX.at1 | exact SX.at2 | exact SX.at3 | exact SX.at4 | exact SX.at5 | exact Z.at6 | exact Z.at7 | exact Z.at8 | exact Z.at9 | exact Z.at10 | exact Z.at11 | exact Z.at12) (by first | omega | (simp [ints_length]; done) | (simp [ints_length]; omega)) ?_
                                clear hs; intro ws hs
                                simp only [Nat.zero_add, Nat.add_zero, Nat.reduceAdd, Int.reduceToNat, Nat.reduceMul, List.set_cons_zero, List.set_cons_succ, List.setIfInBounds_toArray] at hs
                                refine Z.lnil ?_
                                refine Z.only [7, 8, 11, 12, 14] rfl ?_
                                refine Z.nthen ?_
                                exact Z.againD (g14, turn + 1, Dd :: ds) rfl (by refine ⟨?_, ?_, ?_, ?_, ?_, trivial⟩ <;> (first | rfl | (refine Z.lookv rfl ?_; simp; done) | (refine Z.lookv rfl ?_; simp; omega))) ⟨by simp only; omega, hs.sub ((((List.Sublist.refl _).cons _).cons _).cons_cons _)⟩ (by simp only; omega)
                                )
                          · first
                              | (exfalso; simp at hsp122 <;> omega)
                              | (
                                refine Z.yes (s := 122) (b := false) rfl hsp122 rfl ?_
                                (try simp at hsp122)
                                refine Z.ls rfl rfl rfl (by rfl) ?_
                                refine Z.ls rfl rfl rfl (by rfl) ?_
                                refine Z.ls rfl rfl rfl (by rfl) ?_
                                refine Z.ls rfl rfl rfl (by rfl) ?_
                                refine Z.l rfl rfl (by rfl) (Z.keepS hs) (Z.Yd.pickF rfl rfl) ?_
                                refine Z.yes (s := 119) (b := false) rfl rfl rfl ?_
                                refine Z.l rfl rfl (by rfl) (Z.keepS hs) (Z.Yd.pickF rfl rfl) ?_
                                refine Z.lnil ?_
                                refine Z.only [7, 8, 11, 12, 14, 128] rfl ?_
                                refine Z.nthen ?_
                                refine Z.cond rfl (fun h => absurd h (by first | (simp; done) | (have h := hn0 (by omega); simp [← h]; done) | (exfalso; omega))) (fun hc26 => ?_)
                                refine Z.skip ?_
                                refine Z.nblock ?_
                                refine Z.nthen ?_
                                refine Z.seq ?_
                                refine Z.seq ?_
                                refine Z.region ?_
                                refine Z.l rfl rfl (by rfl) (Z.keepS hs) (by first | exact Z.Yd.load rfl Try.isAgg3 (fun _ => Z.cellB (by first | ((repeat (first | exact List.mem_cons_self | refine List.mem_cons_of_mem _ ?_ | refine List.mem_append_right _ ?_)); done) | fail) rfl) | exact Z.Yd.load rfl Try.isAgg3 (fun _ => Z.cellO (by assumption) (by simp) (by assumption)) | fail "load 28.0") ?_
                                refine Z.lnil ?_
                                refine Z.only [7, 8, 11, 12, 129] rfl ?_
                                refine Z.nthen ?_
                                refine Z.region ?_
                                refine Z.le rfl trivial ?_
                                refine Z.ZO.alloc rfl rfl (by rfl) Try.zeroValue3 rfl hs ?_
                                clear hs; intro g14 w14 hs
                                refine Z.le rfl trivial ?_
                                first | refine Z.ZO.store rfl rfl hs Try.sizeOf3 rfl rfl rfl (by first | exact SX.at0 | exact SX.at1 | exact SX.at2 | exact SX.at3 | exact SX.at4 | exact SX.at5 | exact Z.at6 | exact Z.at7 | exact Z.at8 | exact Z.at9 | exact Z.at10 | exact Z.at11 | exact Z.at12) (by first | (simp; done) | (simp; omega)) ?_ | refine Z.ZO.storeR rfl rfl hs Try.sizeOf3 rfl rfl rfl (by first | exact SX.at0 | exact SX.at1 | exact SX.at2 | exact SX.at3 | exact SX.at4 | exact SX.at5 | exact Z.at6 | exact Z.at7 | exact Z.at8 | exact Z.at9 | exact Z.at10 | exact Z.at11 | exact Z.at12) (by first | omega | (simp [ints_length]; done) | (simp [ints_length]; omega)) ?_
                                clear hs; intro ws hs
                                simp only [Nat.zero_add, Nat.add_zero, Nat.reduceAdd, Int.reduceToNat, Nat.reduceMul, List.set_cons_zero, List.set_cons_succ, List.setIfInBounds_toArray] at hs
                                refine Z.lnil ?_
                                refine Z.only [7, 8, 11, 12, 14] rfl ?_
                                refine Z.nthen ?_
                                refine Z.region ?_
                                refine Z.l rfl rfl (by rfl) (Z.keepS hs) (by first | exact Z.Yd.load rfl Try.isAgg3 (fun _ => Z.cellB (by first | ((repeat (first | exact List.mem_cons_self | refine List.mem_cons_of_mem _ ?_ | refine List.mem_append_right _ ?_)); done) | fail) rfl) | exact Z.Yd.load rfl Try.isAgg3 (fun _ => Z.cellO (by assumption) (by simp) (by assumption)) | fail "load 17.0") ?_
                                refine Z.l rfl rfl (by rfl) (Z.keepS hs) (Z.Yd.add rfl rfl (fun hG => Z.wi64 (by first | omega | (have hG' := Z.gh rfl hG; simp at hG'; omega)))) ?_
                                refine Z.le rfl trivial ?_
                                first | refine Z.ZO.store rfl rfl hs Try.sizeOf3 rfl rfl rfl (by first | exact SX.at0 | exact SX.at1 | exact SX.at2 | exact SX.at3 | exact SX.at4 | exact SX.at5 | exact Z.at6 | exact Z.at7 | exact Z.at8 | exact Z.at9 | exact Z.at10 | exact Z.at11 | exact Z.at12) (by first | (simp; done) | (simp; omega)) ?_ | refine Z.ZO.storeR rfl rfl hs Try.sizeOf3 rfl rfl rfl (by first | exact SX.at0 | exact SX.at1 | exact SX.at2 | exact SX.at3 | exact SX.at4 | exact SX.at5 | exact Z.at6 | exact Z.at7 | exact Z.at8 | exact Z.at9 | exact Z.at10 | exact Z.at11 | exact Z.at12) (by first | omega | (simp [ints_length]; done) | (simp [ints_length]; omega)) ?_
                                clear hs; intro ws hs
                                simp only [Nat.zero_add, Nat.add_zero, Nat.reduceAdd, Int.reduceToNat, Nat.reduceMul, List.set_cons_zero, List.set_cons_succ, List.setIfInBounds_toArray] at hs
                                refine Z.lnil ?_
                                refine Z.only [7, 8, 11, 12, 14] rfl ?_
                                refine Z.nthen ?_
                                exact Z.againD (g14, turn + 1, Dd :: ds) rfl (by refine ⟨?_, ?_, ?_, ?_, ?_, trivial⟩ <;> (first | rfl | (refine Z.lookv rfl ?_; simp; done) | (refine Z.lookv rfl ?_; simp; omega))) ⟨by simp only; omega, hs.sub ((((List.Sublist.refl _).cons _).cons _).cons_cons _)⟩ (by simp only; omega)
                                )
                          )
                    · first
                        | (exfalso; simp at hsp110 <;> omega)
                        | (
                          refine Z.yes (s := 110) (b := false) rfl hsp110 rfl ?_
                          (try simp at hsp110)
                          refine Z.ls rfl rfl rfl (by rfl) ?_
                          refine Z.ls rfl rfl rfl (by rfl) ?_
                          refine Z.ls rfl rfl rfl (by rfl) ?_
                          refine Z.ls rfl rfl rfl (by rfl) ?_
                          refine Z.ls rfl rfl rfl (by rfl) ?_
                          refine Z.ls rfl rfl rfl (by rfl) ?_
                          refine Z.ls rfl rfl rfl (by rfl) ?_
                          refine Z.l rfl rfl (by rfl) (Z.keepS hs) (Z.Yd.pickF rfl rfl) ?_
                          refine Z.lb 1 rfl ?_
                          refine Z.yes (s := 119) (b := false) rfl ((by first | (simp; done) | (have h := hn0 (by omega); simp [← h]; done) | (exfalso; omega))) rfl ?_
                          refine Z.l rfl rfl (by rfl) (Z.keepS hs) (by first | exact Z.Yd.load rfl Try.isAgg3 (fun _ => Z.cellB (by first | ((repeat (first | exact List.mem_cons_self | refine List.mem_cons_of_mem _ ?_ | refine List.mem_append_right _ ?_)); done) | fail) rfl) | exact Z.Yd.load rfl Try.isAgg3 (fun _ => Z.cellO (by assumption) (by simp) (by assumption)) | fail "load 26.12") ?_
                          refine Z.lb 2 rfl ?_
                          refine Z.yes (s := 119) (b := false) rfl rfl rfl ?_
                          refine Z.split (s := 122) rfl (fun hsp122 => ?_) (fun hsp122 => ?_)
                          · first
                              | (exfalso; simp at hsp122 <;> omega)
                              | (
                                refine Z.yes (s := 122) (b := true) rfl hsp122 rfl ?_
                                (try simp at hsp122)
                                refine Z.l rfl rfl (by rfl) (Z.keepS hs) (by first | exact Z.Yd.load rfl Try.isAgg3 (fun _ => Z.cellB (by first | ((repeat (first | exact List.mem_cons_self | refine List.mem_cons_of_mem _ ?_ | refine List.mem_append_right _ ?_)); done) | fail) rfl) | exact Z.Yd.load rfl Try.isAgg3 (fun _ => Z.cellO (by assumption) (by simp) (by assumption)) | fail "load 26.15") ?_
                                refine Z.l rfl rfl (by rfl) (Z.keepS hs) (by first | exact Z.Yd.load rfl Try.isAgg49 (fun _ => Z.cellB (by first | ((repeat (first | exact List.mem_cons_self | refine List.mem_cons_of_mem _ ?_ | refine List.mem_append_right _ ?_)); done) | fail) rfl) | exact Z.Yd.load rfl Try.isAgg49 (fun _ => Z.cellO (by assumption) (by simp) (by assumption)) | fail "load 26.16") ?_
                                refine Z.l rfl rfl (by rfl) (Z.keepS hs) (Z.Yd.lenS rfl Try.underlying49) ?_
                                refine Z.lb 1 rfl ?_
                                refine Z.yes (s := 122) (b := true) rfl rfl rfl ?_
                                refine Z.l rfl rfl (by rfl) (Z.keepS hs) (Z.Yd.pickT rfl rfl) ?_
                                refine Z.yes (s := 119) (b := false) rfl rfl rfl ?_
                                refine Z.l rfl rfl (by rfl) (Z.keepS hs) (Z.Yd.pickF rfl rfl) ?_
                                refine Z.lnil ?_
                                refine Z.only [7, 8, 11, 12, 14, 128] rfl ?_
                                refine Z.nthen ?_
                                refine Z.cond rfl (fun h => absurd h (by first | (simp; done) | (have h := hn0 (by omega); simp [← h]; done) | (exfalso; omega))) (fun hc26 => ?_)
                                refine Z.skip ?_
                                refine Z.nblock ?_
                                refine Z.nthen ?_
                                refine Z.seq ?_
                                refine Z.seq ?_
                                refine Z.region ?_
                                refine Z.l rfl rfl (by rfl) (Z.keepS hs) (by first | exact Z.Yd.load rfl Try.isAgg3 (fun _ => Z.cellB (by first | ((repeat (first | exact List.mem_cons_self | refine List.mem_cons_of_mem _ ?_ | refine List.mem_append_right _ ?_)); done) | fail) rfl) | exact Z.Yd.load rfl Try.isAgg3 (fun _ => Z.cellO (by assumption) (by simp) (by assumption)) | fail "load 28.0") ?_
                                refine Z.lnil ?_
                                refine Z.only [7, 8, 11, 12, 129] rfl ?_
                                refine Z.nthen ?_
                                refine Z.region ?_
                                refine Z.le rfl trivial ?_
                                refine Z.ZO.alloc rfl rfl (by rfl) Try.zeroValue3 rfl hs ?_
                                clear hs; intro g14 w14 hs
                                refine Z.le rfl trivial ?_
                                first | refine Z.ZO.store rfl rfl hs Try.sizeOf3 rfl rfl rfl (by first | exact SX.at0 | exact SX.at1 | exact SX.at2 | exact SX.at3 | exact SX.at4 | exact SX.at5 | exact Z.at6 | exact Z.at7 | exact Z.at8 | exact Z.at9 | exact Z.at10 | exact Z.at11 | exact Z.at12) (by first | (simp; done) | (simp; omega)) ?_ | refine Z.ZO.storeR rfl rfl hs Try.sizeOf3 rfl rfl rfl (by first | exact SX.at0 | exact SX.at1 | exact SX.at2 | exact SX.at3 | exact SX.at4 | exact SX.at5 | exact Z.at6 | exact Z.at7 | exact Z.at8 | exact Z.at9 | exact Z.at10 | exact Z.at11 | exact Z.at12) (by first | omega | (simp [ints_length]; done) | (simp [ints_length]; omega)) ?_
                                clear hs; intro ws hs
                                simp only [Nat.zero_add, Nat.add_zero, Nat.reduceAdd, Int.reduceToNat, Nat.reduceMul, List.set_cons_zero, List.set_cons_succ, List.setIfInBounds_toArray] at hs
                                refine Z.lnil ?_
                                refine Z.only [7, 8, 11, 12, 14] rfl ?_
                                refine Z.nthen ?_
                                refine Z.region ?_
                                refine Z.l rfl rfl (by rfl) (Z.keepS hs) (by first | exact Z.Yd.load rfl Try.isAgg3 (fun _ => Z.cellB (by first | ((repeat (first | exact List.mem_cons_self | refine List.mem_cons_of_mem _ ?_ | refine List.mem_append_right _ ?_)); done) | fail) rfl) | exact Z.Yd.load rfl Try.isAgg3 (fun _ => Z.cellO (by assumption) (by simp) (by assumption)) | fail "load 17.0") ?_
                                refine Z.l rfl rfl (by rfl) (Z.keepS hs) (Z.Yd.add rfl rfl (fun hG => Z.wi64 (by first | omega | (have hG' := Z.gh rfl hG; simp at hG'; omega)))) ?_
                                refine Z.le rfl trivial ?_
                                first | refine Z.ZO.store rfl rfl hs Try.sizeOf3 rfl rfl rfl (by first | exact SX.at0 | exact SX.at1 | exact SX.at2 | exact SX.at3 | exact SX.at4 | exact SX.at5 | exact Z.at6 | exact Z.at7 | exact Z.at8 | exact Z.at9 | exact Z.at10 | exact Z.at11 | exact Z.at12) (by first | (simp; done) | (simp; omega)) ?_ | refine Z.ZO.storeR rfl rfl hs Try.sizeOf3 rfl rfl rfl (by first | exact SX.at0 | exact SX.at1 | exact SX.at2 | exact SX.at3 | exact SX.at4 | exact SX.at5 | exact Z.at6 | exact Z.at7 | exact Z.at8 | exact Z.at9 | exact Z.at10 | exact Z.at11 | exact Z.at12) (by first | omega | (simp [ints_length]; done) | (simp [ints_length]; omega)) ?_
                                clear hs; intro ws hs
                                simp only [Nat.zero_add, Nat.add_zero, Nat.reduceAdd, Int.reduceToNat, Nat.reduceMul, List.set_cons_zero, List.set_cons_succ, List.setIfInBounds_toArray] at hs
                                refine Z.lnil ?_
                                refine Z.only [7, 8, 11, 12, 14] rfl ?_
                                refine Z.nthen ?_
                                exact Z.againD (g14, turn + 1, Dd :: ds) rfl (by refine ⟨?_, ?_, ?_, ?_, ?_, trivial⟩ <;> (first | rfl | (refine Z.lookv rfl ?_; simp; done) | (refine Z.lookv rfl ?_; simp; omega))) ⟨by simp only; omega, hs.sub ((((List.Sublist.refl _).cons _).cons _).cons_cons _)⟩ (by simp only; omega)
                                )
                          · first
                              | (exfalso; simp at hsp122 <;> omega)
                              | (
                                refine Z.yes (s := 122) (b := false) rfl hsp122 rfl ?_
                                (try simp at hsp122)
                                refine Z.ls rfl rfl rfl (by rfl) ?_
                                refine Z.ls rfl rfl rfl (by rfl) ?_
                                refine Z.ls rfl rfl rfl (by rfl) ?_
                                refine Z.ls rfl rfl rfl (by rfl) ?_
                                refine Z.l rfl rfl (by rfl) (Z.keepS hs) (Z.Yd.pickF rfl rfl) ?_
                                refine Z.yes (s := 119) (b := false) rfl rfl rfl ?_
                                refine Z.l rfl rfl (by rfl) (Z.keepS hs) (Z.Yd.pickF rfl rfl) ?_
                                refine Z.lnil ?_
                                refine Z.only [7, 8, 11, 12, 14, 128] rfl ?_
                                refine Z.nthen ?_
                                refine Z.cond rfl (fun h => absurd h (by first | (simp; done) | (have h := hn0 (by omega); simp [← h]; done) | (exfalso; omega))) (fun hc26 => ?_)
                                refine Z.skip ?_
                                refine Z.nblock ?_
                                refine Z.nthen ?_
                                refine Z.seq ?_
                                refine Z.seq ?_
                                refine Z.region ?_
                                refine Z.l rfl rfl (by rfl) (Z.keepS hs) (by first | exact Z.Yd.load rfl Try.isAgg3 (fun _ => Z.cellB (by first | ((repeat (first | exact List.mem_cons_self | refine List.mem_cons_of_mem _ ?_ | refine List.mem_append_right _ ?_)); done) | fail) rfl) | exact Z.Yd.load rfl Try.isAgg3 (fun _ => Z.cellO (by assumption) (by simp) (by assumption)) | fail "load 28.0") ?_
                                refine Z.lnil ?_
                                refine Z.only [7, 8, 11, 12, 129] rfl ?_
                                refine Z.nthen ?_
                                refine Z.region ?_
                                refine Z.le rfl trivial ?_
                                refine Z.ZO.alloc rfl rfl (by rfl) Try.zeroValue3 rfl hs ?_
                                clear hs; intro g14 w14 hs
                                refine Z.le rfl trivial ?_
                                first | refine Z.ZO.store rfl rfl hs Try.sizeOf3 rfl rfl rfl (by first | exact SX.at0 | exact SX.at1 | exact SX.at2 | exact SX.at3 | exact SX.at4 | exact SX.at5 | exact Z.at6 | exact Z.at7 | exact Z.at8 | exact Z.at9 | exact Z.at10 | exact Z.at11 | exact Z.at12) (by first | (simp; done) | (simp; omega)) ?_ | refine Z.ZO.storeR rfl rfl hs Try.sizeOf3 rfl rfl rfl (by first | exact SX.at0 | exact SX.at1 | exact SX.at2 | exact SX.at3 | exact SX.at4 | exact SX.at5 | exact Z.at6 | exact Z.at7 | exact Z.at8 | exact Z.at9 | exact Z.at10 | exact Z.at11 | exact Z.at12) (by first | omega | (simp [ints_length]; done) | (simp [ints_length]; omega)) ?_
                                clear hs; intro ws hs
                                simp only [Nat.zero_add, Nat.add_zero, Nat.reduceAdd, Int.reduceToNat, Nat.reduceMul, List.set_cons_zero, List.set_cons_succ, List.setIfInBounds_toArray] at hs
                                refine Z.lnil ?_
                                refine Z.only [7, 8, 11, 12, 14] rfl ?_
                                refine Z.nthen ?_
                                refine Z.region ?_
                                refine Z.l rfl rfl (by rfl) (Z.keepS hs) (by first | exact Z.Yd.load rfl Try.isAgg3 (fun _ => Z.cellB (by first | ((repeat (first | exact List.mem_cons_self | refine List.mem_cons_of_mem _ ?_ | refine List.mem_append_right _ ?_)); done) | fail) rfl) | exact Z.Yd.load rfl Try.isAgg3 (fun _ => Z.cellO (by assumption) (by simp) (by assumption)) | fail "load 17.0") ?_
                                refine Z.l rfl rfl (by rfl) (Z.keepS hs) (Z.Yd.add rfl rfl (fun hG => Z.wi64 (by first | omega | (have hG' := Z.gh rfl hG; simp at hG'; omega)))) ?_
                                refine Z.le rfl trivial ?_
                                first | refine Z.ZO.store rfl rfl hs Try.sizeOf3 rfl rfl rfl (by first | exact SX.at0 | exact SX.at1 | exact SX.at2 | exact SX.at3 | exact SX.at4 | exact SX.at5 | exact Z.at6 | exact Z.at7 | exact Z.at8 | exact Z.at9 | exact Z.at10 | exact Z.at11 | exact Z.at12) (by first | (simp; done) | (simp; omega)) ?_ | refine Z.ZO.storeR rfl rfl hs Try.sizeOf3 rfl rfl rfl (by first | exact SX.at0 | exact SX.at1 | exact SX.at2 | exact SX.at3 | exact SX.at4 | exact SX.at5 | exact Z.at6 | exact Z.at7 | exact Z.at8 | exact Z.at9 | exact Z.at10 | exact Z.at11 | exact Z.at12) (by first | omega | (simp [ints_length]; done) | (simp [ints_length]; omega)) ?_
                                clear hs; intro ws hs
                                simp only [Nat.zero_add, Nat.add_zero, Nat.reduceAdd, Int.reduceToNat, Nat.reduceMul, List.set_cons_zero, List.set_cons_succ, List.setIfInBounds_toArray] at hs
                                refine Z.lnil ?_
                                refine Z.only [7, 8, 11, 12, 14] rfl ?_
                                refine Z.nthen ?_
                                exact Z.againD (g14, turn + 1, Dd :: ds) rfl (by refine ⟨?_, ?_, ?_, ?_, ?_, trivial⟩ <;> (first | rfl | (refine Z.lookv rfl ?_; simp; done) | (refine Z.lookv rfl ?_; simp; omega))) ⟨by simp only; omega, hs.sub ((((List.Sublist.refl _).cons _).cons _).cons_cons _)⟩ (by simp only; omega)
                                )
                          )
                  · clear hs
                    rintro Dd c W4 L4 hi hs
                    obtain ⟨⟨ht, rfl⟩, N, hn0, rfl⟩ := hi
                    have hn0 : turn = 0 → (N : Int) = min (K : Int) (max 1 many) := fun _ => hn0
                    have hn1 : turn = 1 → N = K := fun h => by omega
                    replace hs := Z.fromRange (C := [_, _, _, _, _, _]) (E0 := [_, _, _]) hs
                    refine Z.exit ?_
                    refine Z.xblock ?_
                    refine Z.nthen ?_
                    refine Z.seq ?_
                    refine Z.region ?_
                    refine Z.l rfl rfl (by rfl) (Z.keepS hs) (by first | exact Z.Yd.load rfl Try.isAgg3 (fun _ => Z.cellB (by first | ((repeat (first | exact List.mem_cons_self | refine List.mem_cons_of_mem _ ?_ | refine List.mem_append_right _ ?_)); done) | fail) rfl) | exact Z.Yd.load rfl Try.isAgg3 (fun _ => Z.cellO (by assumption) (by simp) (by assumption)) | fail "load 26.0") ?_
                    refine Z.lb 2 rfl ?_
                    refine Z.split (s := 110) rfl (fun hsp110 => ?_) (fun hsp110 => ?_)
                    · first
                        | (exfalso; simp at hsp110 <;> omega)
                        | (
                          refine Z.yes (s := 110) (b := true) rfl hsp110 rfl ?_
                          (try simp at hsp110)
                          refine Z.l rfl rfl (by rfl) (Z.keepS hs) (by first | exact Z.Yd.load rfl Try.isAgg3 (fun _ => Z.cellB (by first | ((repeat (first | exact List.mem_cons_self | refine List.mem_cons_of_mem _ ?_ | refine List.mem_append_right _ ?_)); done) | fail) rfl) | exact Z.Yd.load rfl Try.isAgg3 (fun _ => Z.cellO (by assumption) (by simp) (by assumption)) | fail "load 26.3") ?_
                          refine Z.l rfl rfl (by rfl) (Z.keepS hs) (by first | exact Z.Yd.load rfl Try.isAgg49 (fun _ => Z.cellB (by first | ((repeat (first | exact List.mem_cons_self | refine List.mem_cons_of_mem _ ?_ | refine List.mem_append_right _ ?_)); done) | fail) rfl) | exact Z.Yd.load rfl Try.isAgg49 (fun _ => Z.cellO (by assumption) (by simp) (by assumption)) | fail "load 26.4") ?_
                          refine Z.l rfl rfl (by rfl) (Z.keepS hs) (Z.Yd.lenS rfl Try.underlying49) ?_
                          refine Z.l rfl rfl (by rfl) (Z.keepS hs) (by first | exact Z.Yd.load rfl Try.isAgg3 (fun _ => Z.cellB (by first | ((repeat (first | exact List.mem_cons_self | refine List.mem_cons_of_mem _ ?_ | refine List.mem_append_right _ ?_)); done) | fail) rfl) | exact Z.Yd.load rfl Try.isAgg3 (fun _ => Z.cellO (by assumption) (by simp) (by assumption)) | fail "load 26.6") ?_
                          refine Z.l rfl rfl (by rfl) (Z.keepS hs) (Z.Yd.max rfl rfl) ?_
                          refine Z.l rfl rfl (by rfl) (Z.keepS hs) (Z.Yd.min rfl rfl) ?_
                          refine Z.lb 1 rfl ?_
                          refine Z.yes (s := 110) (b := true) rfl rfl rfl ?_
                          refine Z.l rfl rfl (by rfl) (Z.keepS hs) (Z.Yd.pickT rfl rfl) ?_
                          refine Z.lb 1 rfl ?_
                          refine Z.yes (s := 119) (b := false) rfl ((by first | (simp; done) | (have h := hn0 (by omega); simp [← h]; done) | (exfalso; omega))) rfl ?_
                          refine Z.l rfl rfl (by rfl) (Z.keepS hs) (by first | exact Z.Yd.load rfl Try.isAgg3 (fun _ => Z.cellB (by first | ((repeat (first | exact List.mem_cons_self | refine List.mem_cons_of_mem _ ?_ | refine List.mem_append_right _ ?_)); done) | fail) rfl) | exact Z.Yd.load rfl Try.isAgg3 (fun _ => Z.cellO (by assumption) (by simp) (by assumption)) | fail "load 26.12") ?_
                          refine Z.lb 2 rfl ?_
                          refine Z.yes (s := 119) (b := false) rfl rfl rfl ?_
                          refine Z.split (s := 122) rfl (fun hsp122 => ?_) (fun hsp122 => ?_)
                          · first
                              | (exfalso; simp at hsp122 <;> omega)
                              | (
                                refine Z.yes (s := 122) (b := true) rfl hsp122 rfl ?_
                                (try simp at hsp122)
                                refine Z.l rfl rfl (by rfl) (Z.keepS hs) (by first | exact Z.Yd.load rfl Try.isAgg3 (fun _ => Z.cellB (by first | ((repeat (first | exact List.mem_cons_self | refine List.mem_cons_of_mem _ ?_ | refine List.mem_append_right _ ?_)); done) | fail) rfl) | exact Z.Yd.load rfl Try.isAgg3 (fun _ => Z.cellO (by assumption) (by simp) (by assumption)) | fail "load 26.15") ?_
                                refine Z.l rfl rfl (by rfl) (Z.keepS hs) (by first | exact Z.Yd.load rfl Try.isAgg49 (fun _ => Z.cellB (by first | ((repeat (first | exact List.mem_cons_self | refine List.mem_cons_of_mem _ ?_ | refine List.mem_append_right _ ?_)); done) | fail) rfl) | exact Z.Yd.load rfl Try.isAgg49 (fun _ => Z.cellO (by assumption) (by simp) (by assumption)) | fail "load 26.16") ?_
                                refine Z.l rfl rfl (by rfl) (Z.keepS hs) (Z.Yd.lenS rfl Try.underlying49) ?_
                                refine Z.lb 1 rfl ?_
                                refine Z.yes (s := 122) (b := true) rfl rfl rfl ?_
                                refine Z.l rfl rfl (by rfl) (Z.keepS hs) (Z.Yd.pickT rfl rfl) ?_
                                refine Z.yes (s := 119) (b := false) rfl rfl rfl ?_
                                refine Z.l rfl rfl (by rfl) (Z.keepS hs) (Z.Yd.pickF rfl rfl) ?_
                                refine Z.lnil ?_
                                refine Z.only [7, 8, 11, 12, 14, 128] rfl ?_
                                refine Z.nthen ?_
                                refine Z.cond rfl (fun h => absurd h (by first | (simp; done) | (have h := hn0 (by omega); simp [← h]; done) | (exfalso; omega))) (fun hc26 => ?_)
                                refine Z.skip ?_
                                refine Z.nblock ?_
                                refine Z.nthen ?_
                                refine Z.seq ?_
                                refine Z.seq ?_
                                refine Z.region ?_
                                refine Z.l rfl rfl (by rfl) (Z.keepS hs) (by first | exact Z.Yd.load rfl Try.isAgg3 (fun _ => Z.cellB (by first | ((repeat (first | exact List.mem_cons_self | refine List.mem_cons_of_mem _ ?_ | refine List.mem_append_right _ ?_)); done) | fail) rfl) | exact Z.Yd.load rfl Try.isAgg3 (fun _ => Z.cellO (by assumption) (by simp) (by assumption)) | fail "load 28.0") ?_
                                refine Z.lnil ?_
                                refine Z.only [7, 8, 11, 12, 129] rfl ?_
                                refine Z.nthen ?_
                                refine Z.region ?_
                                refine Z.le rfl trivial ?_
                                refine Z.ZO.alloc rfl rfl (by rfl) Try.zeroValue3 rfl hs ?_
                                clear hs; intro g14 w14 hs
                                refine Z.le rfl trivial ?_
                                first | refine Z.ZO.store rfl rfl hs Try.sizeOf3 rfl rfl rfl (by first | exact SX.at0 | exact SX.at1 | exact SX.at2 | exact SX.at3 | exact SX.at4 | exact SX.at5 | exact Z.at6 | exact Z.at7 | exact Z.at8 | exact Z.at9 | exact Z.at10 | exact Z.at11 | exact Z.at12) (by first | (simp; done) | (simp; omega)) ?_ | refine Z.ZO.storeR rfl rfl hs Try.sizeOf3 rfl rfl rfl (by first | exact SX.at0 | exact SX.at1 | exact SX.at2 | exact SX.at3 | exact SX.at4 | exact SX.at5 | exact Z.at6 | exact Z.at7 | exact Z.at8 | exact Z.at9 | exact Z.at10 | exact Z.at11 | exact Z.at12) (by first | omega | (simp [ints_length]; done) | (simp [ints_length]; omega)) ?_
                                clear hs; intro ws hs
                                simp only [Nat.zero_add, Nat.add_zero, Nat.reduceAdd, Int.reduceToNat, Nat.reduceMul, List.set_cons_zero, List.set_cons_succ, List.setIfInBounds_toArray] at hs
                                refine Z.lnil ?_
                                refine Z.only [7, 8, 11, 12, 14] rfl ?_
                                refine Z.nthen ?_
                                refine Z.region ?_
                                refine Z.l rfl rfl (by rfl) (Z.keepS hs) (by first | exact Z.Yd.load rfl Try.isAgg3 (fun _ => Z.cellB (by first | ((repeat (first | exact List.mem_cons_self | refine List.mem_cons_of_mem _ ?_ | refine List.mem_append_right _ ?_)); done) | fail) rfl) | exact Z.Yd.load rfl Try.isAgg3 (fun _ => Z.cellO (by assumption) (by simp) (by assumption)) | fail "load 17.0") ?_
                                refine Z.l rfl rfl (by rfl) (Z.keepS hs) (Z.Yd.add rfl rfl (fun hG => Z.wi64 (by first | omega | (have hG' := Z.gh rfl hG; simp at hG'; omega)))) ?_
                                refine Z.le rfl trivial ?_
                                first | refine Z.ZO.store rfl rfl hs Try.sizeOf3 rfl rfl rfl (by first | exact SX.at0 | exact SX.at1 | exact SX.at2 | exact SX.at3 | exact SX.at4 | exact SX.at5 | exact Z.at6 | exact Z.at7 | exact Z.at8 | exact Z.at9 | exact Z.at10 | exact Z.at11 | exact Z.at12) (by first | (simp; done) | (simp; omega)) ?_ | refine Z.ZO.storeR rfl rfl hs Try.sizeOf3 rfl rfl rfl (by first | exact SX.at0 | exact SX.at1 | exact SX.at2 | exact SX.at3 | exact SX.at4 | exact SX.at5 | exact Z.at6 | exact Z.at7 | exact Z.at8 | exact Z.at9 | exact Z.at10 | exact Z.at11 | exact Z.at12) (by first | omega | (simp [ints_length]; done) | (simp [ints_length]; omega)) ?_
                                clear hs; intro ws hs
                                simp only [Nat.zero_add, Nat.add_zero, Nat.reduceAdd, Int.reduceToNat, Nat.reduceMul, List.set_cons_zero, List.set_cons_succ, List.setIfInBounds_toArray] at hs
                                refine Z.lnil ?_
                                refine Z.only [7, 8, 11, 12, 14] rfl ?_
                                refine Z.nthen ?_
                                exact Z.againD (g14, turn + 1, Dd :: ds) rfl (by refine ⟨?_, ?_, ?_, ?_, ?_, trivial⟩ <;> (first | rfl | (refine Z.lookv rfl ?_; simp; done) | (refine Z.lookv rfl ?_; simp; omega))) ⟨by simp only; omega, hs.sub ((((List.Sublist.refl _).cons _).cons _).cons_cons _)⟩ (by simp only; omega)
                                )
                          · first
                              | (exfalso; simp at hsp122 <;> omega)
                              | (
                                refine Z.yes (s := 122) (b := false) rfl hsp122 rfl ?_
                                (try simp at hsp122)
                                refine Z.ls rfl rfl rfl (by rfl) ?_
                                refine Z.ls rfl rfl rfl (by rfl) ?_
                                refine Z.ls rfl rfl rfl (by rfl) ?_
                                refine Z.ls rfl rfl rfl (by rfl) ?_
                                refine Z.l rfl rfl (by rfl) (Z.keepS hs) (Z.Yd.pickF rfl rfl) ?_
                                refine Z.yes (s := 119) (b := false) rfl rfl rfl ?_
                                refine Z.l rfl rfl (by rfl) (Z.keepS hs) (Z.Yd.pickF rfl rfl) ?_
                                refine Z.lnil ?_
                                refine Z.only [7, 8, 11, 12, 14, 128] rfl ?_
                                refine Z.nthen ?_
                                refine Z.cond rfl (fun h => absurd h (by first | (simp; done) | (have h := hn0 (by omega); simp [← h]; done) | (exfalso; omega))) (fun hc26 => ?_)
                                refine Z.skip ?_
                                refine Z.nblock ?_
                                refine Z.nthen ?_
                                refine Z.seq ?_
                                refine Z.seq ?_
                                refine Z.region ?_
                                refine Z.l rfl rfl (by rfl) (Z.keepS hs) (by first | exact Z.Yd.load rfl Try.isAgg3 (fun _ => Z.cellB (by first | ((repeat (first | exact List.mem_cons_self | refine List.mem_cons_of_mem _ ?_ | refine List.mem_append_right _ ?_)); done) | fail) rfl) | exact Z.Yd.load rfl Try.isAgg3 (fun _ => Z.cellO (by assumption) (by simp) (by assumption)) | fail "load 28.0") ?_
                                refine Z.lnil ?_
                                refine Z.only [7, 8, 11, 12, 129] rfl ?_
                                refine Z.nthen ?_
                                refine Z.region ?_
                                refine Z.le rfl trivial ?_
                                refine Z.ZO.alloc rfl rfl (by rfl) Try.zeroValue3 rfl hs ?_
                                clear hs; intro g14 w14 hs
                                refine Z.le rfl trivial ?_
                                first | refine Z.ZO.store rfl rfl hs Try.sizeOf3 rfl rfl rfl (by first | exact SX.at0 | exact SX.at1 | exact SX.at2 | exact SX.at3 | exact SX.at4 | exact SX.at5 | exact Z.at6 | exact Z.at7 | exact Z.at8 | exact Z.at9 | exact Z.at10 | exact Z.at11 | exact Z.at12) (by first | (simp; done) | (simp; omega)) ?_ | refine Z.ZO.storeR rfl rfl hs Try.sizeOf3 rfl rfl rfl (by first | exact SX.at0 | exact SX.at1 | exact SX.at2 | exact SX.at3 | exact SX.at4 | exact SX.at5 | exact Z.at6 | exact Z.at7 | exact Z.at8 | exact Z.at9 | exact Z.at10 | exact Z.at11 | exact Z.at12) (by first | omega | (simp [ints_length]; done) | (simp [ints_length]; omega)) ?_
                                clear hs; intro ws hs
                                simp only [Nat.zero_add, Nat.add_zero, Nat.reduceAdd, Int.reduceToNat, Nat.reduceMul, List.set_cons_zero, List.set_cons_succ, List.setIfInBounds_toArray] at hs
                                refine Z.lnil ?_
                                refine Z.only [7, 8, 11, 12, 14] rfl ?_
                                refine Z.nthen ?_
                                refine Z.region ?_
                                refine Z.l rfl rfl (by rfl) (Z.keepS hs) (by first | exact Z.Yd.load rfl Try.isAgg3 (fun _ => Z.cellB (by first | ((repeat (first | exact List.mem_cons_self | refine List.mem_cons_of_mem _ ?_ | refine List.mem_append_right _ ?_)); done) | fail) rfl) | exact Z.Yd.load rfl Try.isAgg3 (fun _ => Z.cellO (by assumption) (by simp) (by assumption)) | fail "load 17.0") ?_
                                refine Z.l rfl rfl (by rfl) (Z.keepS hs) (Z.Yd.add rfl rfl (fun hG => Z.wi64 (by first | omega | (have hG' := Z.gh rfl hG; simp at hG'; omega)))) ?_
                                refine Z.le rfl trivial ?_
                                first | refine Z.ZO.store rfl rfl hs Try.sizeOf3 rfl rfl rfl (by first | exact SX.at0 | exact SX.at1 | exact SX.at2 | exact SX.at3 | exact SX.at4 | exact SX.at5 | exact Z.at6 | exact Z.at7 | exact Z.at8 | exact Z.at9 | exact Z.at10 | exact Z.at11 | exact Z.at12) (by first | (simp; done) | (simp; omega)) ?_ | refine Z.ZO.storeR rfl rfl hs Try.sizeOf3 rfl rfl rfl (by first | exact SX.at0 | exact SX.at1 | exact SX.at2 | exact SX.at3 | exact SX.at4 | exact SX.at5 | exact Z.at6 | exact Z.at7 | exact Z.at8 | exact Z.at9 | exact Z.at10 | exact Z.at11 | exact Z.at12) (by first | omega | (simp [ints_length]; done) | (simp [ints_length]; omega)) ?_
                                clear hs; intro ws hs
                                simp only [Nat.zero_add, Nat.add_zero, Nat.reduceAdd, Int.reduceToNat, Nat.reduceMul, List.set_cons_zero, List.set_cons_succ, List.setIfInBounds_toArray] at hs
                                refine Z.lnil ?_
                                refine Z.only [7, 8, 11, 12, 14] rfl ?_
                                refine Z.nthen ?_
                                exact Z.againD (g14, turn + 1, Dd :: ds) rfl (by refine ⟨?_, ?_, ?_, ?_, ?_, trivial⟩ <;> (first | rfl | (refine Z.lookv rfl ?_; simp; done) | (refine Z.lookv rfl ?_; simp; omega))) ⟨by simp only; omega, hs.sub ((((List.Sublist.refl _).cons _).cons _).cons_cons _)⟩ (by simp only; omega)
                                )
                          )
                    · first
                        | (exfalso; simp at hsp110 <;> omega)
                        | (
                          refine Z.yes (s := 110) (b := false) rfl hsp110 rfl ?_
                          (try simp at hsp110)
                          refine Z.ls rfl rfl rfl (by rfl) ?_
                          refine Z.ls rfl rfl rfl (by rfl) ?_
                          refine Z.ls rfl rfl rfl (by rfl) ?_
                          refine Z.ls rfl rfl rfl (by rfl) ?_
                          refine Z.ls rfl rfl rfl (by rfl) ?_
                          refine Z.ls rfl rfl rfl (by rfl) ?_
                          refine Z.ls rfl rfl rfl (by rfl) ?_
                          refine Z.l rfl rfl (by rfl) (Z.keepS hs) (Z.Yd.pickF rfl rfl) ?_
                          refine Z.lb 1 rfl ?_
                          refine Z.yes (s := 119) (b := false) rfl ((by first | (simp; done) | (have h := hn0 (by omega); simp [← h]; done) | (exfalso; omega))) rfl ?_
                          refine Z.l rfl rfl (by rfl) (Z.keepS hs) (by first | exact Z.Yd.load rfl Try.isAgg3 (fun _ => Z.cellB (by first | ((repeat (first | exact List.mem_cons_self | refine List.mem_cons_of_mem _ ?_ | refine List.mem_append_right _ ?_)); done) | fail) rfl) | exact Z.Yd.load rfl Try.isAgg3 (fun _ => Z.cellO (by assumption) (by simp) (by assumption)) | fail "load 26.12") ?_
                          refine Z.lb 2 rfl ?_
                          refine Z.yes (s := 119) (b := false) rfl rfl rfl ?_
                          refine Z.split (s := 122) rfl (fun hsp122 => ?_) (fun hsp122 => ?_)
                          · first
                              | (exfalso; simp at hsp122 <;> omega)
                              | (
                                refine Z.yes (s := 122) (b := true) rfl hsp122 rfl ?_
                                (try simp at hsp122)
                                refine Z.l rfl rfl (by rfl) (Z.keepS hs) (by first | exact Z.Yd.load rfl Try.isAgg3 (fun _ => Z.cellB (by first | ((repeat (first | exact List.mem_cons_self | refine List.mem_cons_of_mem _ ?_ | refine List.mem_append_right _ ?_)); done) | fail) rfl) | exact Z.Yd.load rfl Try.isAgg3 (fun _ => Z.cellO (by assumption) (by simp) (by assumption)) | fail "load 26.15") ?_
                                refine Z.l rfl rfl (by rfl) (Z.keepS hs) (by first | exact Z.Yd.load rfl Try.isAgg49 (fun _ => Z.cellB (by first | ((repeat (first | exact List.mem_cons_self | refine List.mem_cons_of_mem _ ?_ | refine List.mem_append_right _ ?_)); done) | fail) rfl) | exact Z.Yd.load rfl Try.isAgg49 (fun _ => Z.cellO (by assumption) (by simp) (by assumption)) | fail "load 26.16") ?_
                                refine Z.l rfl rfl (by rfl) (Z.keepS hs) (Z.Yd.lenS rfl Try.underlying49) ?_
                                refine Z.lb 1 rfl ?_
                                refine Z.yes (s := 122) (b := true) rfl rfl rfl ?_
                                refine Z.l rfl rfl (by rfl) (Z.keepS hs) (Z.Yd.pickT rfl rfl) ?_
                                refine Z.yes (s := 119) (b := false) rfl rfl rfl ?_
                                refine Z.l rfl rfl (by rfl) (Z.keepS hs) (Z.Yd.pickF rfl rfl) ?_
                                refine Z.lnil ?_
                                refine Z.only [7, 8, 11, 12, 14, 128] rfl ?_
                                refine Z.nthen ?_
                                refine Z.cond rfl (fun h => absurd h (by first | (simp; done) | (have h := hn0 (by omega); simp [← h]; done) | (exfalso; omega))) (fun hc26 => ?_)
                                refine Z.skip ?_
                                refine Z.nblock ?_
                                refine Z.nthen ?_
                                refine Z.seq ?_
                                refine Z.seq ?_
                                refine Z.region ?_
                                refine Z.l rfl rfl (by rfl) (Z.keepS hs) (by first | exact Z.Yd.load rfl Try.isAgg3 (fun _ => Z.cellB (by first | ((repeat (first | exact List.mem_cons_self | refine List.mem_cons_of_mem _ ?_ | refine List.mem_append_right _ ?_)); done) | fail) rfl) | exact Z.Yd.load rfl Try.isAgg3 (fun _ => Z.cellO (by assumption) (by simp) (by assumption)) | fail "load 28.0") ?_
                                refine Z.lnil ?_
                                refine Z.only [7, 8, 11, 12, 129] rfl ?_
                                refine Z.nthen ?_
                                refine Z.region ?_
                                refine Z.le rfl trivial ?_
                                refine Z.ZO.alloc rfl rfl (by rfl) Try.zeroValue3 rfl hs ?_
                                clear hs; intro g14 w14 hs
                                refine Z.le rfl trivial ?_
                                first | refine Z.ZO.store rfl rfl hs Try.sizeOf3 rfl rfl rfl (by first | exact SX.at0 | exact SX.at1 | exact SX.at2 | exact SX.at3 | exact SX.at4 | exact SX.at5 | exact Z.at6 | exact Z.at7 | exact Z.at8 | exact Z.at9 | exact Z.at10 | exact Z.at11 | exact Z.at12) (by first | (simp; done) | (simp; omega)) ?_ | refine Z.ZO.storeR rfl rfl hs Try.sizeOf3 rfl rfl rfl (by first | exact SX.at0 | exact SX.at1 | exact SX.at2 | exact SX.at3 | exact SX.at4 | exact SX.at5 | exact Z.at6 | exact Z.at7 | exact Z.at8 | exact Z.at9 | exact Z.at10 | exact Z.at11 | exact Z.at12) (by first | omega | (simp [ints_length]; done) | (simp [ints_length]; omega)) ?_
                                clear hs; intro ws hs
                                simp only [Nat.zero_add, Nat.add_zero, Nat.reduceAdd, Int.reduceToNat, Nat.reduceMul, List.set_cons_zero, List.set_cons_succ, List.setIfInBounds_toArray] at hs
                                refine Z.lnil ?_
                                refine Z.only [7, 8, 11, 12, 14] rfl ?_
                                refine Z.nthen ?_
                                refine Z.region ?_
                                refine Z.l rfl rfl (by rfl) (Z.keepS hs) (by first | exact Z.Yd.load rfl Try.isAgg3 (fun _ => Z.cellB (by first | ((repeat (first | exact List.mem_cons_self | refine List.mem_cons_of_mem _ ?_ | refine List.mem_append_right _ ?_)); done) | fail) rfl) | exact Z.Yd.load rfl Try.isAgg3 (fun _ => Z.cellO (by assumption) (by simp) (by assumption)) | fail "load 17.0") ?_
                                refine Z.l rfl rfl (by rfl) (Z.keepS hs) (Z.Yd.add rfl rfl (fun hG => Z.wi64 (by first | omega | (have hG' := Z.gh rfl hG; simp at hG'; omega)))) ?_
                                refine Z.le rfl trivial ?_
                                first | refine Z.ZO.store rfl rfl hs Try.sizeOf3 rfl rfl rfl (by first | exact SX.at0 | exact SX.at1 | exact SX.at2 | exact SX.at3 | exact SX.at4 | exact SX.at5 | exact Z.at6 | exact Z.at7 | exact Z.at8 | exact Z.at9 | exact Z.at10 | exact Z.at11 | exact Z.at12) (by first | (simp; done) | (simp; omega)) ?_ | refine Z.ZO.storeR rfl rfl hs Try.sizeOf3 rfl rfl rfl (by first | exact SX.at0 | exact SX.at1 | exact SX.at2 | exact SX.at3 | exact SX.at4 | exact SX.at5 | exact Z.at6 | exact Z.at7 | exact Z.at8 | exact Z.at9 | exact Z.at10 | exact Z.at11 | exact Z.at12) (by first | omega | (simp [ints_length]; done) | (simp [ints_length]; omega)) ?_
                                clear hs; intro ws hs
                                simp only [Nat.zero_add, Nat.add_zero, Nat.reduceAdd, Int.reduceToNat, Nat.reduceMul, List.set_cons_zero, List.set_cons_succ, List.setIfInBounds_toArray] at hs
                                refine Z.lnil ?_
                                refine Z.only [7, 8, 11, 12, 14] rfl ?_
                                refine Z.nthen ?_
                                exact Z.againD (g14, turn + 1, Dd :: ds) rfl (by refine ⟨?_, ?_, ?_, ?_, ?_, trivial⟩ <;> (first | rfl | (refine Z.lookv rfl ?_; simp; done) | (refine Z.lookv rfl ?_; simp; omega))) ⟨by simp only; omega, hs.sub ((((List.Sublist.refl _).cons _).cons _).cons_cons _)⟩ (by simp only; omega)
                                )
                          · first
                              | (exfalso; simp at hsp122 <;> omega)
                              | (
                                refine Z.yes (s := 122) (b := false) rfl hsp122 rfl ?_
                                (try simp at hsp122)
                                refine Z.ls rfl rfl rfl (by rfl) ?_
                                refine Z.ls rfl rfl rfl (by rfl) ?_
                                refine Z.ls rfl rfl rfl (by rfl) ?_
                                refine Z.ls rfl rfl rfl (by rfl) ?_
                                refine Z.l rfl rfl (by rfl) (Z.keepS hs) (Z.Yd.pickF rfl rfl) ?_
                                refine Z.yes (s := 119) (b := false) rfl rfl rfl ?_
                                refine Z.l rfl rfl (by rfl) (Z.keepS hs) (Z.Yd.pickF rfl rfl) ?_
                                refine Z.lnil ?_
                                refine Z.only [7, 8, 11, 12, 14, 128] rfl ?_
                                refine Z.nthen ?_
                                refine Z.cond rfl (fun h => absurd h (by first | (simp; done) | (have h := hn0 (by omega); simp [← h]; done) | (exfalso; omega))) (fun hc26 => ?_)
                                refine Z.skip ?_
                                refine Z.nblock ?_
                                refine Z.nthen ?_
                                refine Z.seq ?_
                                refine Z.seq ?_
                                refine Z.region ?_
                                refine Z.l rfl rfl (by rfl) (Z.keepS hs) (by first | exact Z.Yd.load rfl Try.isAgg3 (fun _ => Z.cellB (by first | ((repeat (first | exact List.mem_cons_self | refine List.mem_cons_of_mem _ ?_ | refine List.mem_append_right _ ?_)); done) | fail) rfl) | exact Z.Yd.load rfl Try.isAgg3 (fun _ => Z.cellO (by assumption) (by simp) (by assumption)) | fail "load 28.0") ?_
                                refine Z.lnil ?_
                                refine Z.only [7, 8, 11, 12, 129] rfl ?_
                                refine Z.nthen ?_
                                refine Z.region ?_
                                refine Z.le rfl trivial ?_
                                refine Z.ZO.alloc rfl rfl (by rfl) Try.zeroValue3 rfl hs ?_
                                clear hs; intro g14 w14 hs
                                refine Z.le rfl trivial ?_
                                first | refine Z.ZO.store rfl rfl hs Try.sizeOf3 rfl rfl rfl (by first | exact SX.at0 | exact SX.at1 | exact SX.at2 | exact SX.at3 | exact SX.at4 | exact SX.at5 | exact Z.at6 | exact Z.at7 | exact Z.at8 | exact Z.at9 | exact Z.at10 | exact Z.at11 | exact Z.at12) (by first | (simp; done) | (simp; omega)) ?_ | refine Z.ZO.storeR rfl rfl hs Try.sizeOf3 rfl rfl rfl (by first | exact SX.at0 | exact SX.at1 | exact SX.at2 | exact SX.at3 | exact SX.at4 | exact SX.at5 | exact Z.at6 | exact Z.at7 | exact Z.at8 | exact Z.at9 | exact Z.at10 | exact Z.at11 | exact Z.at12) (by first | omega | (simp [ints_length]; done) | (simp [ints_length]; omega)) ?_
                                clear hs; intro ws hs
                                simp only [Nat.zero_add, Nat.add_zero, Nat.reduceAdd, Int.reduceToNat, Nat.reduceMul, List.set_cons_zero, List.set_cons_succ, List.setIfInBounds_toArray] at hs
                                refine Z.lnil ?_
                                refine Z.only [7, 8, 11, 12, 14] rfl ?_
                                refine Z.nthen ?_
                                refine Z.region ?_
                                refine Z.l rfl rfl (by rfl) (Z.keepS hs) (by first | exact Z.Yd.load rfl Try.isAgg3 (fun _ => Z.cellB (by first | ((repeat (first | exact List.mem_cons_self | refine List.mem_cons_of_mem _ ?_ | refine List.mem_append_right _ ?_)); done) | fail) rfl) | exact Z.Yd.load rfl Try.isAgg3 (fun _ => Z.cellO (by assumption) (by simp) (by assumption)) | fail "load 17.0") ?_
                                refine Z.l rfl rfl (by rfl) (Z.keepS hs) (Z.Yd.add rfl rfl (fun hG => Z.wi64 (by first | omega | (have hG' := Z.gh rfl hG; simp at hG'; omega)))) ?_
                                refine Z.le rfl trivial ?_
                                first | refine Z.ZO.store rfl rfl hs Try.sizeOf3 rfl rfl rfl (by first | exact SX.at0 | exact SX.at1 | exact SX.at2 | exact SX.at3 | exact SX.at4 | exact SX.at5 | exact Z.at6 | exact Z.at7 | exact Z.at8 | exact Z.at9 | exact Z.at10 | exact Z.at11 | exact Z.at12) (by first | (simp; done) | (simp; omega)) ?_ | refine Z.ZO.storeR rfl rfl hs Try.sizeOf3 rfl rfl rfl (by first | exact SX.at0 | exact SX.at1 | exact SX.at2 | exact SX.at3 | exact SX.at4 | exact SX.at5 | exact Z.at6 | exact Z.at7 | exact Z.at8 | exact Z.at9 | exact Z.at10 | exact Z.at11 | exact Z.at12) (by first | omega | (simp [ints_length]; done) | (simp [ints_length]; omega)) ?_
                                clear hs; intro ws hs
                                simp only [Nat.zero_add, Nat.add_zero, Nat.reduceAdd, Int.reduceToNat, Nat.reduceMul, List.set_cons_zero, List.set_cons_succ, List.setIfInBounds_toArray] at hs
                                refine Z.lnil ?_
                                refine Z.only [7, 8, 11, 12, 14] rfl ?_
                                refine Z.nthen ?_
                                exact Z.againD (g14, turn + 1, Dd :: ds) rfl (by refine ⟨?_, ?_, ?_, ?_, ?_, trivial⟩ <;> (first | rfl | (refine Z.lookv rfl ?_; simp; done) | (refine Z.lookv rfl ?_; simp; omega))) ⟨by simp only; omega, hs.sub ((((List.Sublist.refl _).cons _).cons _).cons_cons _)⟩ (by simp only; omega)
                                )
                          )
                  )
            · first
                | (exfalso; simp at hc16 <;> omega)
                | (
                  (try simp at hc16)
                  refine Z.exit ?_
                  refine Z.xthen ?_
                  refine Z.xthen ?_
                  refine Z.xblock ?_
                  refine Z.nthen ?_
                  refine Z.seq ?_
                  refine Z.region ?_
                  refine Z.le rfl trivial ?_
                  refine Z.ZO.call rfl rfl (by rfl) rfl rfl Try.call9 rfl (works34 _) ?_
                  rintro v30_0 w30_0 ⟨rfl, hy⟩
                  replace hs := hs.call hy
                  clear hy
                  try simp only [List.cons_append, List.nil_append, List.append_nil] at hs
                  refine Z.le rfl trivial ?_
                  first | refine Z.ZO.store rfl rfl hs Try.sizeOf4 rfl rfl rfl (by first | exact SX.at0 | exact SX.at1 | exact SX.at2 | exact SX.at3 | exact SX.at4 | exact SX.at5 | exact Z.at6 | exact Z.at7 | exact Z.at8 | exact Z.at9 | exact Z.at10 | exact Z.at11 | exact Z.at12) (by first | (simp; done) | (simp; omega)) ?_ | refine Z.ZO.storeR rfl rfl hs Try.sizeOf4 rfl rfl rfl (by first | exact SX.at0 | exact SX.at1 | exact SX.at2 | exact SX.at3 | exact SX.at4 | exact SX.at5 | exact Z.at6 | exact Z.at7 | exact Z.at8 | exact Z.at9 | exact Z.at10 | exact Z.at11 | exact Z.at12) (by first | omega | (simp [ints_length]; done) | (simp [ints_length]; omega)) ?_
                  clear hs; intro ws hs
                  simp only [Nat.zero_add, Nat.add_zero, Nat.reduceAdd, Int.reduceToNat, Nat.reduceMul, List.set_cons_zero, List.set_cons_succ, List.setIfInBounds_toArray] at hs
                  refine Z.lnil ?_
                  refine Z.only [8] rfl ?_
                  refine Z.nthen ?_
                  refine Z.ret ?_
                  -- ret#0
                  refine Z.outMs (vs := [_]) (ds) [_, _, _, _, _, _, _, _] (Z.marksFront (L := [_, _, _, _, _, _, _, _]) (ds := ds) hs) (fun wr hs => (by exact ⟨⟨_, rfl, Z.rvc hs Try.isAgg4 (by first | ((repeat (first | exact List.mem_cons_self | refine List.mem_cons_of_mem _ ?_ | refine List.mem_append_right _ ?_)); done) | fail) rfl⟩, trivial⟩)) ?_
                  clear hs
                  intro wr hs
                  exact ⟨_, rfl, rfl, hs.sub (List.nil_sublist _)⟩
                  )
            )
  · skip
    refine Z.enterM Try.func8 rfl Try.ntmps8 rfl rfl ?_
    refine Z.seq ?_
    refine Z.region ?_
    refine Z.le rfl trivial ?_
    refine Z.ZO.box rfl rfl (by rfl) rfl rfl hs ?_
    clear hs; intro g4 w4 hs
    refine Z.le rfl trivial ?_
    refine Z.ZO.box rfl rfl (by rfl) rfl rfl hs ?_
    clear hs; intro g5 w5 hs
    refine Z.le rfl trivial ?_
    refine Z.ZO.box rfl rfl (by rfl) rfl rfl hs ?_
    clear hs; intro g7 w7 hs
    refine Z.le rfl trivial ?_
    refine Z.ZO.alloc rfl rfl (by rfl) Try.zeroValue4 rfl hs ?_
    clear hs; intro g8 w8 hs
    refine Z.lnil ?_
    refine Z.only [2, 4, 5, 7, 8] rfl ?_
    refine Z.nthen ?_
    refine Z.seq ?_
    refine Z.seq ?_
    refine Z.region ?_
    refine Z.l rfl rfl (by rfl) (Z.keepS hs) (Z.Yd.fieldA (m := 1) rfl (by kernel_rfl)) ?_
    refine Z.l rfl rfl (by rfl) (Z.keepS hs) (by first | exact Z.Yd.load rfl Try.isAgg22 (fun _ => Z.cellB (by first | ((repeat (first | exact List.mem_cons_self | refine List.mem_cons_of_mem _ ?_ | refine List.mem_append_right _ ?_)); done) | fail) rfl) | exact Z.Yd.load rfl Try.isAgg22 (fun _ => Z.cellO (by assumption) (by simp) (by assumption)) | fail "load 1.1") ?_
    refine Z.l rfl rfl (by rfl) (Z.keepS hs) (Z.Yd.lenS rfl Try.underlying22) ?_
    refine Z.lb 2 rfl ?_
    refine Z.split (s := 22) rfl (fun hsp22 => ?_) (fun hsp22 => ?_)
    · first
        | (exfalso; simp at hsp22 <;> omega)
        | (
          refine Z.yes (s := 22) (b := true) rfl hsp22 rfl ?_
          (try simp at hsp22)
          refine Z.ls rfl rfl rfl (by rfl) ?_
          refine Z.ls rfl rfl rfl (by rfl) ?_
          refine Z.ls rfl rfl rfl (by rfl) ?_
          refine Z.ls rfl rfl rfl (by rfl) ?_
          refine Z.l rfl rfl (by rfl) (Z.keepS hs) (Z.Yd.pickT rfl rfl) ?_
          refine Z.lnil ?_
          refine Z.only [2, 4, 5, 7, 8, 27] rfl ?_
          refine Z.nthen ?_
          refine Z.cond rfl (fun hc1 => ?_) (fun h => absurd h (by first | (simp; done) | (simp; omega)))
          refine Z.seq ?_
          refine Z.region ?_
          refine Z.le rfl trivial ?_
          refine Z.ZO.call rfl rfl (by rfl) rfl rfl Try.call9 rfl (works34 _) ?_
          rintro v2_0 w2_0 ⟨rfl, hy⟩
          replace hs := hs.call hy
          clear hy
          try simp only [List.cons_append, List.nil_append, List.append_nil] at hs
          refine Z.le rfl trivial ?_
          first | refine Z.ZO.store rfl rfl hs Try.sizeOf4 rfl rfl rfl (by first | exact SX.at0 | exact SX.at1 | exact SX.at2 | exact SX.at3 | exact SX.at4 | exact SX.at5 | exact Z.at6 | exact Z.at7 | exact Z.at8 | exact Z.at9 | exact Z.at10 | exact Z.at11 | exact Z.at12) (by first | (simp; done) | (simp; omega)) ?_ | refine Z.ZO.storeR rfl rfl hs Try.sizeOf4 rfl rfl rfl (by first | exact SX.at0 | exact SX.at1 | exact SX.at2 | exact SX.at3 | exact SX.at4 | exact SX.at5 | exact Z.at6 | exact Z.at7 | exact Z.at8 | exact Z.at9 | exact Z.at10 | exact Z.at11 | exact Z.at12) (by first | omega | (simp [ints_length]; done) | (simp [ints_length]; omega)) ?_
          clear hs; intro ws hs
          simp only [Nat.zero_add, Nat.add_zero, Nat.reduceAdd, Int.reduceToNat, Nat.reduceMul, List.set_cons_zero, List.set_cons_succ, List.setIfInBounds_toArray] at hs
          refine Z.lnil ?_
          refine Z.only [8] rfl ?_
          refine Z.nthen ?_
          refine Z.ret ?_
          repeat (first | refine Z.rthen ?_ | refine Z.rblock ?_ | refine Z.rscope ?_)
          -- ret#0
          refine Z.outM0 (vs := [_]) (by exact ⟨⟨_, rfl, Z.rvc hs Try.isAgg4 (by first | ((repeat (first | exact List.mem_cons_self | refine List.mem_cons_of_mem _ ?_ | refine List.mem_append_right _ ?_)); done) | fail) rfl⟩, trivial⟩) ?_
          first | exact ⟨_, rfl, rfl, hs⟩ | exact ⟨_, rfl, rfl, hs.sub (List.nil_sublist _)⟩
          )
    · first
        | (exfalso; simp at hsp22 <;> omega)
        | (
          refine Z.yes (s := 22) (b := false) rfl hsp22 rfl ?_
          (try simp at hsp22)
          refine Z.l rfl rfl (by rfl) (Z.keepS hs) (Z.Yd.fieldA (m := 1) rfl (by kernel_rfl)) ?_
          refine Z.l rfl rfl (by rfl) (Z.keepS hs) (by first | exact Z.Yd.load rfl Try.isAgg22 (fun _ => Z.cellB (by first | ((repeat (first | exact List.mem_cons_self | refine List.mem_cons_of_mem _ ?_ | refine List.mem_append_right _ ?_)); done) | fail) rfl) | exact Z.Yd.load rfl Try.isAgg22 (fun _ => Z.cellO (by assumption) (by simp) (by assumption)) | fail "load 1.6") ?_
          refine Z.l rfl rfl (by rfl) (Z.keepS hs) (Z.Yd.lenS rfl Try.underlying22) ?_
          refine Z.lb 1 rfl ?_
          refine Z.yes (s := 22) (b := false) rfl rfl rfl ?_
          refine Z.l rfl rfl (by rfl) (Z.keepS hs) (Z.Yd.pickF rfl rfl) ?_
          refine Z.lnil ?_
          refine Z.only [2, 4, 5, 7, 8, 27] rfl ?_
          refine Z.nthen ?_
          refine Z.cond rfl (fun hc1 => ?_) (fun h => absurd h (by first | (simp; done) | (simp; omega)))
          refine Z.seq ?_
          refine Z.region ?_
          refine Z.le rfl trivial ?_
          refine Z.ZO.call rfl rfl (by rfl) rfl rfl Try.call9 rfl (works34 _) ?_
          rintro v2_0 w2_0 ⟨rfl, hy⟩
          replace hs := hs.call hy
          clear hy
          try simp only [List.cons_append, List.nil_append, List.append_nil] at hs
          refine Z.le rfl trivial ?_
          first | refine Z.ZO.store rfl rfl hs Try.sizeOf4 rfl rfl rfl (by first | exact SX.at0 | exact SX.at1 | exact SX.at2 | exact SX.at3 | exact SX.at4 | exact SX.at5 | exact Z.at6 | exact Z.at7 | exact Z.at8 | exact Z.at9 | exact Z.at10 | exact Z.at11 | exact Z.at12) (by first | (simp; done) | (simp; omega)) ?_ | refine Z.ZO.storeR rfl rfl hs Try.sizeOf4 rfl rfl rfl (by first | exact SX.at0 | exact SX.at1 | exact SX.at2 | exact SX.at3 | exact SX.at4 | exact SX.at5 | exact Z.at6 | exact Z.at7 | exact Z.at8 | exact Z.at9 | exact Z.at10 | exact Z.at11 | exact Z.at12) (by first | omega | (simp [ints_length]; done) | (simp [ints_length]; omega)) ?_
          clear hs; intro ws hs
          simp only [Nat.zero_add, Nat.add_zero, Nat.reduceAdd, Int.reduceToNat, Nat.reduceMul, List.set_cons_zero, List.set_cons_succ, List.setIfInBounds_toArray] at hs
          refine Z.lnil ?_
          refine Z.only [8] rfl ?_
          refine Z.nthen ?_
          refine Z.ret ?_
          repeat (first | refine Z.rthen ?_ | refine Z.rblock ?_ | refine Z.rscope ?_)
          -- ret#1
          refine Z.outM0 (vs := [_]) (by exact ⟨⟨_, rfl, Z.rvc hs Try.isAgg4 (by first | ((repeat (first | exact List.mem_cons_self | refine List.mem_cons_of_mem _ ?_ | refine List.mem_append_right _ ?_)); done) | fail) rfl⟩, trivial⟩) ?_
          first | exact ⟨_, rfl, rfl, hs⟩ | exact ⟨_, rfl, rfl, hs.sub (List.nil_sublist _)⟩
          )
theorem statusRanges_rd (cs0 cs1 : Array Value) (a2 a3 : Int) (w : World) (z0 : Rd Try.prog w 24 (Value.agg cs0).cells.toList) (z1 : Rd Try.prog w 24 (Value.agg cs1).cells.toList) (z2 : Rd Try.prog w 3 (Value.int .i64 a2).cells.toList) (z3 : Rd Try.prog w 3 (Value.int .i64 a3).cells.toList) :
    Calls Try.prog 8 #[.agg cs0, .agg cs1, .int .i64 a2, .int .i64 a3] w fun e w' => e = .returned (.bool true) ∧ Below w.heap.size w w' := by
  obtain ⟨ack, A, n, c, l, hr, h1, h2, h3, h4⟩ := rd_status z0
  obtain ⟨ack2, B, m, d, k, kr, k1, k2, k3, k4⟩ := rd_status z1
  have e : cs0 = #[.int .i64 ack, .slice A n c] := by
    have : cs0.toList = [.int .i64 ack, .slice A n c] := by simpa [Value.cells] using hr
    exact Array.toList_inj.1 this
  have e2 : cs1 = #[.int .i64 ack2, .slice B m d] := by
    have : cs1.toList = [.int .i64 ack2, .slice B m d] := by simpa [Value.cells] using kr
    exact Array.toList_inj.1 this
  rw [e, e2]
  refine (statusRanges_walk ack ack2 a2 a3 A B n c m d l k w h4 h1 k4 k1 (Nat.le_trans h2 h3) (Nat.le_trans k2 k3)).mono ?_
  rintro e w' ⟨v, rfl, rfl, h⟩
  exact ⟨rfl, h.below⟩
end Go.Proofs.Ytcieclifabbkjaa
